/-
  The law's awake, walked; no condition.
-/
import Derived.Test.YtjgkiiohbceocaaSdK
namespace Go.Proofs.Ytjgkiiohbceocaa
open Go.RowKit
set_option linter.unusedVariables false
set_option linter.unusedSimpArgs false

theorem nats_lit {W : World} {g : Nat} {cs : Array Value} {l : List Nat} {n : Nat} (h : Blk W g 3 cs) (hc : cs.toList = natC l) (hn : n = l.length) : NatsAt W (.slice (some ⟨g, 0, none⟩) n n) l := by
  subst hn
  refine ⟨some ⟨g, 0, none⟩, l.length, rfl, fun _ => ⟨g, 0, rfl, h.lt, fun j x hj => ?_⟩⟩
  rw [Nat.zero_add]
  refine h.cell' ?_
  rw [← Array.getElem?_toList, hc]
  unfold natC
  rw [List.getElem?_map, hj]; rfl
theorem ll_lit {W : World} {g : Nat} {cs : Array Value} {ls : List (List Nat)} {n : Nat} (h : Blk W g 25 cs) (hn : n = ls.length) (hc : ∀ (j : Nat) (l : List Nat), ls[j]? = some l → ∃ u, cs[j]? = some u ∧ NatsAt W u l) : LLAt W (.slice (some ⟨g, 0, none⟩) n n) ls := by
  subst hn
  refine ⟨some ⟨g, 0, none⟩, ls.length, rfl, fun _ => ⟨g, rfl, h.lt, fun j l hj => ?_⟩⟩
  obtain ⟨u, h1, h2⟩ := hc j l hj
  exact ⟨u, h.cell' h1, h2⟩
theorem ints_lit {W : World} {g : Nat} {cs : Array Value} {l : List Int} {n : Nat} (h : Blk W g 3 cs) (hc : cs.toList = intL l) (hn : n = l.length) : CellsAt W (.slice (some ⟨g, 0, none⟩) n n) (intL l) := by
  subst hn
  refine ⟨some ⟨g, 0, none⟩, l.length, by rw [intL_len], fun _ => ⟨g, 0, rfl, h.lt, fun j x hj => ?_⟩⟩
  rw [Nat.zero_add]
  refine h.cell' ?_
  rw [← Array.getElem?_toList, hc, hj]
theorem sh_len : shG.length = 5 := rfl
theorem sh_parts : vParts 5 shG = [[0], [1, 2], [3], [4]] := by decide +kernel
theorem sh_chk : (chkG 5 shG).1 = 0 := by decide +kernel
theorem sh_ePath : ePath 5 shG 0 3 = 0 := by decide +kernel
theorem sh_path : vPath 5 shG 0 3 = [0, 1, 2, 3] := by decide +kernel
theorem sh_eHv : eHv 5 shG [1, 1, 5, 1, 3] = 0 := by decide +kernel
theorem sh_hv : vHv 5 shG [1, 1, 5, 1, 3] = (7, [0, 1, 2]) := by decide +kernel

set_option maxRecDepth 100000 in
set_option maxHeartbeats 4000000 in
theorem awake_law (w : World) :
    Calls Try.prog 10 #[] w fun e w' => e = .returned (.bool true) ∧ Below w.heap.size w w' := by
  go_enter Try.func10, Try.ntmps10
  go_wp2_with (fail)
  refine (shown_law _).mono ?_
  rintro e W1 ⟨u1, rfl, ⟨A1, c1, rfl, k1⟩, h1⟩
  have hp := parts_code 5 shG (by rw [sh_len]; decide) A1 c1 W1 k1
  rw [sh_parts, sh_chk] at hp
  clear k1
  go_wp2_with (fail)
  refine hp.mono ?_
  rintro e W2 ⟨v1, rfl, l1, h2⟩
  have B2 := Lib.hid (And.intro (gr_call h1 h2) l1)
  clear h1 h2 l1 hp
  go_wp2_with (fail)
  refine (shown_law _).mono ?_
  rintro e W3 ⟨u2, rfl, ⟨A2, c2, rfl, k2⟩, h3⟩
  have hp := path_code 5 shG 0 3 (by rw [sh_len]; decide) A2 c2 W3 k2
  rw [sh_ePath, sh_path] at hp
  clear k2
  go_wp2_with (fail)
  refine hp.mono ?_
  rintro e W4 ⟨v2, rfl, l2, h4⟩
  have h24 := gr_call h3 h4
  have B4 := Lib.hid (And.intro (gr_call B2.out.1 h24) (And.intro (B2.out.2.below h24) l2))
  clear h3 h4 h24 l2 hp B2
  go_wp2_with (fail)
  refine (shown_law _).mono ?_
  rintro e W5 ⟨u3, rfl, ⟨A3, c3, rfl, k3⟩, h5⟩
  have ha := gr_alloc (Below.refl W5.heap.size W5) (.cells #[.int .i64 1, .int .i64 1, .int .i64 5, .int .i64 1, .int .i64 3] 3)
  have hp := heavy_code 5 shG [1, 1, 5, 1, 3] (by rw [sh_len]; decide) (by decide) A3 c3 (.slice (some ⟨W5.heap.size, 0, none⟩) 5 5) (W5.alloc (.cells #[.int .i64 1, .int .i64 1, .int .i64 5, .int .i64 1, .int .i64 3] 3)) (k3.below ha) (ints_lit (Blk.new _ _ _) rfl rfl)
  rw [sh_eHv, sh_hv] at hp
  clear k3
  go_wp2_with (fail)
  refine hp.mono ?_
  rintro e W6 ⟨v3, rfl, l3, h6⟩
  have h46 := gr_call h5 (gr_call ha h6)
  have B6 := Lib.hid (And.intro (gr_call B4.out.1 h46) (And.intro (B4.out.2.1.below h46) (And.intro (B4.out.2.2.below h46) l3)))
  clear h5 ha h6 h46 l3 hp B4
  go_wp2_with (fail)
  refine (shown_law _).mono ?_
  rintro e W7 ⟨u4, rfl, ⟨A4, c4, rfl, k4⟩, h7⟩
  have hp := check_code 5 shG (by rw [sh_len]; decide) A4 c4 W7 k4
  rw [sh_chk] at hp
  clear k4
  go_wp2_with (fail)
  refine hp.mono ?_
  rintro e W8 ⟨rfl, h8⟩
  have h68 := gr_call h7 h8
  have B8 := Lib.hid (And.intro (gr_call B6.out.1 h68) (And.intro (B6.out.2.1.below h68) (And.intro (B6.out.2.2.1.below h68) (B6.out.2.2.2.below h68))))
  clear h7 h8 h68 hp B6
  go_wp2_with (fail)
  have hz := (gr_alloc (gr_alloc (gr_alloc (gr_alloc (gr_alloc (Below.refl W8.heap.size W8) (.cells #[.int .i64 0] 3)) (.cells #[.int .i64 1, .int .i64 2] 3)) (.cells #[.int .i64 3] 3)) (.cells #[.int .i64 4] 3)) (.cells #[.slice (some ⟨W8.heap.size, 0, none⟩) 1 1, .slice (some ⟨W8.heap.size + 1, 0, none⟩) 2 2, .slice (some ⟨W8.heap.size + 1 + 1, 0, none⟩) 1 1, .slice (some ⟨W8.heap.size + 1 + 1 + 1, 0, none⟩) 1 1] 25))
  have b0 : Blk (((((W8.alloc (.cells #[.int .i64 0] 3)).alloc (.cells #[.int .i64 1, .int .i64 2] 3)).alloc (.cells #[.int .i64 3] 3)).alloc (.cells #[.int .i64 4] 3)).alloc (.cells #[.slice (some ⟨W8.heap.size, 0, none⟩) 1 1, .slice (some ⟨W8.heap.size + 1, 0, none⟩) 2 2, .slice (some ⟨W8.heap.size + 1 + 1, 0, none⟩) 1 1, .slice (some ⟨W8.heap.size + 1 + 1 + 1, 0, none⟩) 1 1] 25)) W8.heap.size 3 #[.int .i64 0] := ((((Blk.new W8 _ _).alloc _).alloc _).alloc _).alloc _
  have b1 : Blk (((((W8.alloc (.cells #[.int .i64 0] 3)).alloc (.cells #[.int .i64 1, .int .i64 2] 3)).alloc (.cells #[.int .i64 3] 3)).alloc (.cells #[.int .i64 4] 3)).alloc (.cells #[.slice (some ⟨W8.heap.size, 0, none⟩) 1 1, .slice (some ⟨W8.heap.size + 1, 0, none⟩) 2 2, .slice (some ⟨W8.heap.size + 1 + 1, 0, none⟩) 1 1, .slice (some ⟨W8.heap.size + 1 + 1 + 1, 0, none⟩) 1 1] 25)) (W8.heap.size + 1) 3 #[.int .i64 1, .int .i64 2] := (((blk_at (by simp)).alloc _).alloc _).alloc _
  have b2 : Blk (((((W8.alloc (.cells #[.int .i64 0] 3)).alloc (.cells #[.int .i64 1, .int .i64 2] 3)).alloc (.cells #[.int .i64 3] 3)).alloc (.cells #[.int .i64 4] 3)).alloc (.cells #[.slice (some ⟨W8.heap.size, 0, none⟩) 1 1, .slice (some ⟨W8.heap.size + 1, 0, none⟩) 2 2, .slice (some ⟨W8.heap.size + 1 + 1, 0, none⟩) 1 1, .slice (some ⟨W8.heap.size + 1 + 1 + 1, 0, none⟩) 1 1] 25)) (W8.heap.size + 1 + 1) 3 #[.int .i64 3] := ((blk_at (by simp)).alloc _).alloc _
  have b3 : Blk (((((W8.alloc (.cells #[.int .i64 0] 3)).alloc (.cells #[.int .i64 1, .int .i64 2] 3)).alloc (.cells #[.int .i64 3] 3)).alloc (.cells #[.int .i64 4] 3)).alloc (.cells #[.slice (some ⟨W8.heap.size, 0, none⟩) 1 1, .slice (some ⟨W8.heap.size + 1, 0, none⟩) 2 2, .slice (some ⟨W8.heap.size + 1 + 1, 0, none⟩) 1 1, .slice (some ⟨W8.heap.size + 1 + 1 + 1, 0, none⟩) 1 1] 25)) (W8.heap.size + 1 + 1 + 1) 3 #[.int .i64 4] := (blk_at (by simp)).alloc _
  have b4 : Blk (((((W8.alloc (.cells #[.int .i64 0] 3)).alloc (.cells #[.int .i64 1, .int .i64 2] 3)).alloc (.cells #[.int .i64 3] 3)).alloc (.cells #[.int .i64 4] 3)).alloc (.cells #[.slice (some ⟨W8.heap.size, 0, none⟩) 1 1, .slice (some ⟨W8.heap.size + 1, 0, none⟩) 2 2, .slice (some ⟨W8.heap.size + 1 + 1, 0, none⟩) 1 1, .slice (some ⟨W8.heap.size + 1 + 1 + 1, 0, none⟩) 1 1] 25)) (W8.heap.size + 1 + 1 + 1 + 1) 25 #[.slice (some ⟨W8.heap.size, 0, none⟩) 1 1, .slice (some ⟨W8.heap.size + 1, 0, none⟩) 2 2, .slice (some ⟨W8.heap.size + 1 + 1, 0, none⟩) 1 1, .slice (some ⟨W8.heap.size + 1 + 1 + 1, 0, none⟩) 1 1] := blk_at (by simp)
  have hll : LLAt (((((W8.alloc (.cells #[.int .i64 0] 3)).alloc (.cells #[.int .i64 1, .int .i64 2] 3)).alloc (.cells #[.int .i64 3] 3)).alloc (.cells #[.int .i64 4] 3)).alloc (.cells #[.slice (some ⟨W8.heap.size, 0, none⟩) 1 1, .slice (some ⟨W8.heap.size + 1, 0, none⟩) 2 2, .slice (some ⟨W8.heap.size + 1 + 1, 0, none⟩) 1 1, .slice (some ⟨W8.heap.size + 1 + 1 + 1, 0, none⟩) 1 1] 25)) (.slice (some ⟨W8.heap.size + 1 + 1 + 1 + 1, 0, none⟩) 4 4) [[0], [1, 2], [3], [4]] := by
    refine ll_lit b4 rfl (fun j l hj => ?_)
    have hj4 : j < 4 := (List.getElem?_eq_some_iff.1 hj).1
    match j, hj4, hj with
    | 0, _, hj => cases hj; exact ⟨_, rfl, nats_lit b0 rfl rfl⟩
    | 1, _, hj => cases hj; exact ⟨_, rfl, nats_lit b1 rfl rfl⟩
    | 2, _, hj => cases hj; exact ⟨_, rfl, nats_lit b2 rfl rfl⟩
    | 3, _, hj => cases hj; exact ⟨_, rfl, nats_lit b3 rfl rfl⟩
  have hc := lists_law [[0], [1, 2], [3], [4]] [[0], [1, 2], [3], [4]] v1 _ (by decide) (by decide) (by decide) (by decide) _ (B8.out.2.1.below hz) hll
  rw [decide_eq_true rfl] at hc
  refine hc.mono ?_
  rintro e X1 ⟨rfl, h9⟩
  have h89 := gr_call hz h9
  have C1 := Lib.hid (And.intro (gr_call B8.out.1 h89) (And.intro (B8.out.2.2.1.below h89) (B8.out.2.2.2.below h89)))
  clear hz b0 b1 b2 b3 b4 hll hc h9 h89
  go_wp2_with (fail)
  have ha := gr_alloc (Below.refl X1.heap.size X1) (.cells #[.int .i64 0, .int .i64 1, .int .i64 2, .int .i64 3] 3)
  have hc := same_nats [0, 1, 2, 3] [0, 1, 2, 3] v2 (.slice (some ⟨X1.heap.size, 0, none⟩) 4 4) (X1.alloc (.cells #[.int .i64 0, .int .i64 1, .int .i64 2, .int .i64 3] 3)) (C1.out.2.1.below ha) (nats_lit (Blk.new _ _ _) rfl rfl) (by decide) (by decide)
  rw [decide_eq_true rfl] at hc
  refine hc.mono ?_
  rintro e X2 ⟨rfl, h9⟩
  have h89 := gr_call ha h9
  have C2 := Lib.hid (And.intro (gr_call C1.out.1 h89) (C1.out.2.2.below h89))
  clear ha hc h9 h89
  go_wp2_with (fail)
  have ha := gr_alloc (Below.refl X2.heap.size X2) (.cells #[.int .i64 0, .int .i64 1, .int .i64 2] 3)
  have hc := same_nats [0, 1, 2] [0, 1, 2] v3 (.slice (some ⟨X2.heap.size, 0, none⟩) 3 3) (X2.alloc (.cells #[.int .i64 0, .int .i64 1, .int .i64 2] 3)) (C2.out.2.below ha) (nats_lit (Blk.new _ _ _) rfl rfl) (by decide) (by decide)
  rw [decide_eq_true rfl] at hc
  refine hc.mono ?_
  rintro e X3 ⟨rfl, h9⟩
  have C3 := Lib.hid (gr_call C2.out.1 (gr_call ha h9))
  clear ha hc h9
  go_wp2_with (fail)
  go_ret
  exact ⟨rfl, C3.out⟩
end Go.Proofs.Ytjgkiiohbceocaa
