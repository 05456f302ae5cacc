/-
  The law SccKnown, walked: it returns true; no condition.
-/
import Derived.Test.YtjgkiiohbceocaaSdU
namespace Go.Proofs.Ytjgkiiohbceocaa
open Go.RowKit
set_option linter.unusedVariables false
set_option linter.unusedSimpArgs false

theorem graph_at (n : Nat) (ns : List Nat) (hl : ns.length ≤ 1000) (E : List Edg) (hE : (prsN ns (ns.length / 2)).map conE = E) (v : Value) (w : World) (hv : NatsAt w v ns) :
    Calls Try.prog 36 #[.int .i64 (n : Int), v] w fun e w' => ∃ A c, e = .returned (.agg #[.int .i64 (n : Int), .slice A E.length c]) ∧ Cells w' A 2 E.length (edAt E) ∧ Below w.heap.size w w' := by
  refine (graph_law n ns hl v w hv).mono ?_
  rintro e W ⟨u, rfl, hu, h⟩
  obtain ⟨A, c, h1, h2⟩ := OwnE.at_ hu
  rw [hE] at h1 h2
  exact ⟨A, c, by rw [h1], h2, h⟩
theorem shown_at (w : World) :
    Calls Try.prog 35 #[] w fun e w' => ∃ A c, e = .returned (.agg #[.int .i64 5, .slice A shG.length c]) ∧ Cells w' A 2 shG.length (edAt shG) ∧ Below w.heap.size w w' := by
  refine (shown_law w).mono ?_
  rintro e W ⟨u, rfl, ⟨A, c, rfl, h⟩, hb⟩
  exact ⟨A, c, rfl, h, hb⟩
theorem bools_lit {W : World} {g : Nat} {cs : Array Value} {l : List Bool} {n : Nat} (h : Blk W g 4 cs) (hc : cs.toList = boolL l) (hn : n = l.length) : CellsAt W (.slice (some ⟨g, 0, none⟩) n n) (boolL l) := by
  subst hn
  have hl : (boolL l).length = l.length := by simp [boolL]
  refine ⟨some ⟨g, 0, none⟩, l.length, by rw [hl], fun _ => ⟨g, 0, rfl, h.lt, fun j x hj => ?_⟩⟩
  rw [Nat.zero_add]
  refine h.cell' ?_
  rw [← Array.getElem?_toList, hc, hj]
def gB : List Edg := [⟨0, 1⟩, ⟨1, 2⟩, ⟨2, 3⟩]
def gC : List Edg := [⟨0, 2⟩]
def gD : List Edg := [⟨1, 0⟩, ⟨0, 1⟩]
def gE : List Edg := [⟨0, 1⟩, ⟨1, 2⟩]
theorem kn_loops : vLoops 5 shG = [false, true, false, true] := by decide +kernel
theorem kn_levels : vLevels 5 shG = [2, 1, 1, 0, 0] := by decide +kernel
theorem kn_eOrder : eOrder 5 shG = 16 := by decide +kernel
theorem kn_eOrderB : eOrder 5 gB = 0 := by decide +kernel
theorem kn_orderB : vOrder 5 gB = [0, 1, 2, 3, 4] := by decide +kernel
theorem kn_e11 : ePath 5 shG 1 1 = 0 := by decide +kernel
theorem kn_p11 : vPath 5 shG 1 1 = [1, 2, 1] := by decide +kernel
theorem kn_e30 : ePath 5 shG 3 0 = 3 := by decide +kernel
theorem kn_e05 : ePath 5 shG 0 5 = 2 := by decide +kernel
theorem kn_condN : vCondN 5 shG = 4 := by decide +kernel
theorem kn_cond : vCond 5 shG = gE := by decide +kernel
theorem kn_eHz : eHv 5 shG [0, 0, 0, 0, 0] = 0 := by decide +kernel
theorem kn_hz : vHv 5 shG [0, 0, 0, 0, 0] = (0, [0]) := by decide +kernel
theorem kn_eH3 : eHv 5 shG [0, 0, 0] = 3 := by decide +kernel
theorem kn_h3 : vHv 5 shG [0, 0, 0] = (0, []) := by decide +kernel
theorem kn_chC1 : (chkG 2 gC).1 = 2 := by decide +kernel
theorem kn_chC2 : (chkG 2 gC).2 = 0 := by decide +kernel
theorem kn_chD1 : (chkG 2 gD).1 = 8 := by decide +kernel
theorem kn_chD2 : (chkG 2 gD).2 = 1 := by decide +kernel
theorem mk_zeros5 (w : World) : (Instr.makeSlice 25 (.int .i64 5) (.int .i64 5)).run Try.prog w = .ok (.slice (some ⟨w.heap.size, 0, none⟩) 5 5) (w.alloc (.cells #[.int .i64 0, .int .i64 0, .int .i64 0, .int .i64 0, .int .i64 0] 3)) :=
  mk_vec (t := 25) (z := .int .i64 0) Try.underlying25 infoInt rfl (by decide) 5 (by decide) w
theorem mk_zeros3 (w : World) : (Instr.makeSlice 25 (.int .i64 3) (.int .i64 3)).run Try.prog w = .ok (.slice (some ⟨w.heap.size, 0, none⟩) 3 3) (w.alloc (.cells #[.int .i64 0, .int .i64 0, .int .i64 0] 3)) :=
  mk_vec (t := 25) (z := .int .i64 0) Try.underlying25 infoInt rfl (by decide) 3 (by decide) w
theorem hv5 (A : Option Addr) (c : Nat) (W : World) (g : Nat) (hA : Cells W A 2 shG.length (edAt shG)) (hB : Blk W g 3 #[.int .i64 0, .int .i64 0, .int .i64 0, .int .i64 0, .int .i64 0]) :
    Calls Try.prog 18 #[.agg #[.int .i64 5, .slice A shG.length c], .slice (some ⟨g, 0, none⟩) 5 5] W fun e w' => ∃ v, e = .returned (.tuple #[.int .i64 0, v, .int .i64 0]) ∧ NatsAt w' v [0] ∧ Below W.heap.size W w' := by
  have h := heavy_code 5 shG [0, 0, 0, 0, 0] (by rw [sh_len]; decide) (by decide) A c (.slice (some ⟨g, 0, none⟩) 5 5) W hA (ints_lit hB rfl rfl)
  rwa [kn_eHz, kn_hz] at h
theorem hv3 (A : Option Addr) (c : Nat) (W : World) (g : Nat) (hA : Cells W A 2 shG.length (edAt shG)) (hB : Blk W g 3 #[.int .i64 0, .int .i64 0, .int .i64 0]) :
    Calls Try.prog 18 #[.agg #[.int .i64 5, .slice A shG.length c], .slice (some ⟨g, 0, none⟩) 3 3] W fun e w' => ∃ v, e = .returned (.tuple #[.int .i64 0, v, .int .i64 3]) ∧ NatsAt w' v [] ∧ Below W.heap.size W w' := by
  have h := heavy_code 5 shG [0, 0, 0] (by rw [sh_len]; decide) (by decide) A c (.slice (some ⟨g, 0, none⟩) 3 3) W hA (ints_lit hB rfl rfl)
  rwa [kn_eH3, kn_h3] at h
theorem shl_le : shG.length ≤ 1000000 := by rw [sh_len]; decide

set_option maxRecDepth 100000 in
set_option maxHeartbeats 4000000 in
theorem reaches_law (f : Int) (l : List Nat) (hE : eReach 5 shG f = 0) (hV : vReach 5 shG f = l) (hl : l.length ≤ 1000000) (v : Value) (w : World) (hv : NatsAt w v l) :
    Calls Try.prog 37 #[.int .i64 f, v] w fun e w' => e = .returned (.bool true) ∧ Below w.heap.size w w' := by
  go_enter Try.func37, Try.ntmps37
  go_wp2_with (fail)
  refine (shown_at _).mono ?_
  rintro e W1 ⟨A, c, rfl, k, h1⟩
  have hr := reach_code 5 shG f shl_le A c W1 k
  rw [hE, hV] at hr
  have D := Lib.hid (And.intro h1 (hv.below h1))
  clear h1 k hv
  go_wp2_with (fail)
  refine hr.mono ?_
  rintro e W2 ⟨u, rfl, hu, h2⟩
  have D2 := Lib.hid (And.intro (gr_call D.out.1 h2) (And.intro (D.out.2.below h2) hu))
  clear hr h2 hu D
  go_wp2_with (fail)
  refine (same_n l u v hl _ D2.out.2.2 D2.out.2.1).mono ?_
  rintro e W3 ⟨rfl, h3⟩
  have D3 := Lib.hid (gr_call D2.out.1 h3)
  clear h3
  go_wp2_with (fail)
  go_ret
  exact ⟨rfl, D3.out⟩

set_option maxRecDepth 100000 in
set_option maxHeartbeats 16000000 in
theorem law_known (w : World) :
    Calls Try.prog 5 #[] w fun e w' => e = .returned (.bool true) ∧ Below w.heap.size w w' := by
  go_enter Try.func5, Try.ntmps5
  go_wp2_with (fail)
  have S := Lib.hid (Below.refl w.heap.size w)
  refine (shown_at _).mono ?_
  rintro e W1 ⟨AW1, cW1, rfl, k, h⟩
  have S2 := Lib.hid (And.intro (gr_call (S.out) h) (k))
  clear S h k
  have S := Lib.hid S2.out
  clear S2
  have hp := loops_code 5 shG shl_le AW1 cW1 W1 (S.out.2)
  rw [kn_loops, sh_chk] at hp
  go_wp2_with (fail)
  refine hp.mono ?_
  rintro e W2 ⟨v1, rfl, x, h⟩
  clear hp
  have S2 := Lib.hid (And.intro (gr_call (S.out.1) h) (x))
  clear S h
  have S := Lib.hid S2.out
  clear S2
  go_wp2_with (fail)
  refine (shown_at _).mono ?_
  rintro e W3 ⟨AW3, cW3, rfl, k, h⟩
  have S2 := Lib.hid (And.intro (gr_call (S.out.1) h) (And.intro ((S.out.2).below h) (k)))
  clear S h k
  have S := Lib.hid S2.out
  clear S2
  have hp := levels_code 5 shG shl_le AW3 cW3 W3 (S.out.2.2)
  rw [kn_levels, sh_chk] at hp
  go_wp2_with (fail)
  refine hp.mono ?_
  rintro e W4 ⟨v2, rfl, x, h⟩
  clear hp
  have S2 := Lib.hid (And.intro (gr_call (S.out.1) h) (And.intro ((S.out.2.1).below h) (x)))
  clear S h
  have S := Lib.hid S2.out
  clear S2
  go_wp2_with (fail)
  refine (shown_at _).mono ?_
  rintro e W5 ⟨AW5, cW5, rfl, k, h⟩
  have S2 := Lib.hid (And.intro (gr_call (S.out.1) h) (And.intro ((S.out.2.1).below h) (And.intro ((S.out.2.2).below h) (k))))
  clear S h k
  have S := Lib.hid S2.out
  clear S2
  have hp := order_code 5 shG shl_le AW5 cW5 W5 (S.out.2.2.2)
  rw [kn_eOrder] at hp
  go_wp2_with (fail)
  refine hp.mono ?_
  rintro e W6 ⟨v3, rfl, x, h⟩
  clear hp
  have S2 := Lib.hid (And.intro (gr_call (S.out.1) h) (And.intro ((S.out.2.1).below h) ((S.out.2.2.1).below h)))
  clear S h
  have S := Lib.hid S2.out
  clear S2
  go_wp2_with (fail)
  have ha := gr_alloc (Below.refl W6.heap.size W6) (.cells #[.int .i64 0, .int .i64 1, .int .i64 1, .int .i64 2, .int .i64 2, .int .i64 3] 3)
  have hg := graph_at 5 [0, 1, 1, 2, 2, 3] (by decide) gB (by decide +kernel) (.slice (some ⟨W6.heap.size, 0, none⟩) 6 6) (W6.alloc (.cells #[.int .i64 0, .int .i64 1, .int .i64 1, .int .i64 2, .int .i64 2, .int .i64 3] 3)) (nats_lit (Blk.new _ _ _) rfl rfl)
  skip
  refine hg.mono ?_
  rintro e W7 ⟨AW7, cW7, rfl, k, h0⟩
  have h := gr_call ha h0
  clear hg
  have S2 := Lib.hid (And.intro (gr_call (S.out.1) h) (And.intro ((S.out.2.1).below h) (And.intro ((S.out.2.2).below h) (k))))
  clear S h k ha h0
  have S := Lib.hid S2.out
  clear S2
  have hp := order_code 5 gB (by decide) AW7 cW7 W7 (S.out.2.2.2)
  rw [kn_eOrderB, kn_orderB] at hp
  go_wp2_with (fail)
  refine hp.mono ?_
  rintro e W8 ⟨v4, rfl, x, h⟩
  clear hp
  have S2 := Lib.hid (And.intro (gr_call (S.out.1) h) (And.intro ((S.out.2.1).below h) (And.intro ((S.out.2.2.1).below h) (x))))
  clear S h
  have S := Lib.hid S2.out
  clear S2
  go_wp2_with (fail)
  refine (shown_at _).mono ?_
  rintro e W9 ⟨AW9, cW9, rfl, k, h⟩
  have S2 := Lib.hid (And.intro (gr_call (S.out.1) h) (And.intro ((S.out.2.1).below h) (And.intro ((S.out.2.2.1).below h) (And.intro ((S.out.2.2.2).below h) (k)))))
  clear S h k
  have S := Lib.hid S2.out
  clear S2
  have hp := path_code 5 shG 1 1 shl_le AW9 cW9 W9 (S.out.2.2.2.2)
  rw [kn_e11, kn_p11] at hp
  go_wp2_with (fail)
  refine hp.mono ?_
  rintro e W10 ⟨v5, rfl, x, h⟩
  clear hp
  have S2 := Lib.hid (And.intro (gr_call (S.out.1) h) (And.intro ((S.out.2.1).below h) (And.intro ((S.out.2.2.1).below h) (And.intro ((S.out.2.2.2.1).below h) (x)))))
  clear S h
  have S := Lib.hid S2.out
  clear S2
  go_wp2_with (fail)
  refine (shown_at _).mono ?_
  rintro e W11 ⟨AW11, cW11, rfl, k, h⟩
  have S2 := Lib.hid (And.intro (gr_call (S.out.1) h) (And.intro ((S.out.2.1).below h) (And.intro ((S.out.2.2.1).below h) (And.intro ((S.out.2.2.2.1).below h) (And.intro ((S.out.2.2.2.2).below h) (k))))))
  clear S h k
  have S := Lib.hid S2.out
  clear S2
  have hp := path_code 5 shG 3 0 shl_le AW11 cW11 W11 (S.out.2.2.2.2.2)
  rw [kn_e30] at hp
  go_wp2_with (fail)
  refine hp.mono ?_
  rintro e W12 ⟨v6, rfl, x, h⟩
  clear hp
  have S2 := Lib.hid (And.intro (gr_call (S.out.1) h) (And.intro ((S.out.2.1).below h) (And.intro ((S.out.2.2.1).below h) (And.intro ((S.out.2.2.2.1).below h) ((S.out.2.2.2.2.1).below h)))))
  clear S h
  have S := Lib.hid S2.out
  clear S2
  go_wp2_with (fail)
  refine (shown_at _).mono ?_
  rintro e W13 ⟨AW13, cW13, rfl, k, h⟩
  have S2 := Lib.hid (And.intro (gr_call (S.out.1) h) (And.intro ((S.out.2.1).below h) (And.intro ((S.out.2.2.1).below h) (And.intro ((S.out.2.2.2.1).below h) (And.intro ((S.out.2.2.2.2).below h) (k))))))
  clear S h k
  have S := Lib.hid S2.out
  clear S2
  have hp := path_code 5 shG 0 5 shl_le AW13 cW13 W13 (S.out.2.2.2.2.2)
  rw [kn_e05] at hp
  go_wp2_with (fail)
  refine hp.mono ?_
  rintro e W14 ⟨v7, rfl, x, h⟩
  clear hp
  have S2 := Lib.hid (And.intro (gr_call (S.out.1) h) (And.intro ((S.out.2.1).below h) (And.intro ((S.out.2.2.1).below h) (And.intro ((S.out.2.2.2.1).below h) ((S.out.2.2.2.2.1).below h)))))
  clear S h
  have S := Lib.hid S2.out
  clear S2
  go_wp2_with (fail)
  refine (shown_at _).mono ?_
  rintro e W15 ⟨AW15, cW15, rfl, k, h⟩
  have S2 := Lib.hid (And.intro (gr_call (S.out.1) h) (And.intro ((S.out.2.1).below h) (And.intro ((S.out.2.2.1).below h) (And.intro ((S.out.2.2.2.1).below h) (And.intro ((S.out.2.2.2.2).below h) (k))))))
  clear S h k
  have S := Lib.hid S2.out
  clear S2
  have hp := condense_code 5 shG shl_le AW15 cW15 W15 (S.out.2.2.2.2.2)
  rw [kn_condN, kn_cond, sh_chk] at hp
  go_wp2_with (fail)
  refine hp.mono ?_
  rintro e W16 ⟨v8, rfl, ⟨Ac, cc, rfl, x⟩, h0⟩
  clear hp
  have ha := gr_alloc (Below.refl W16.heap.size W16) (.cells #[.int .i64 4, .slice Ac gE.length cc] 24)
  have kb := Blk.new W16 24 #[.int .i64 4, .slice Ac gE.length cc]
  have x2 := x.below ha
  have h := gr_call h0 ha
  have S2 := Lib.hid (And.intro (gr_call (S.out.1) h) (And.intro ((S.out.2.1).below h) (And.intro ((S.out.2.2.1).below h) (And.intro ((S.out.2.2.2.1).below h) (And.intro ((S.out.2.2.2.2.1).below h) (And.intro (kb) (x2)))))))
  clear S h ha h0 x x2 kb
  have S := Lib.hid S2.out
  clear S2
  go_wp2_with (fail)
  obtain ⟨X1, hX1⟩ : ∃ X1, W16.alloc (.cells #[.int .i64 4, .slice Ac gE.length cc] 24) = X1 := ⟨_, rfl⟩
  rw [hX1] at S ⊢
  clear hX1
  have hmk := fun W => mk_zeros5 W
  go_region_with (first
    | (go_at_call 35; refine (shown_at _).mono ?_; rintro e Wa ⟨Aa, ca, rfl, ka, ha⟩)
    | (go_at_call 18; refine (hv5 _ _ _ _ ?_ ?_).mono ?_; (first | exact ka.below (gr_alloc (Below.refl _ _) _) | exact ka); (first | exact Blk.new _ _ _ | exact Blk.call (Blk.new X1 _ _) ha | exact Blk.call (Blk.drew (Blk.new X1 _ _)) ha | exact Blk.call (Blk.new (X1).drew _ _) ha); rintro e W17 ⟨v9, rfl, x9, hh⟩))
  all_goals (
    have h : Below X1.heap.size X1 W17 := by
      first
        | exact gr_call (gr_drew (Below.refl _ _)) (gr_call ha (gr_call (gr_alloc (Below.refl _ _) _) hh))
        | exact gr_call (gr_call (gr_drew (gr_alloc (Below.refl _ _) _)) ha) hh
        | exact gr_call (gr_call (gr_alloc (gr_drew (Below.refl _ _)) _) ha) hh
    clear ha hh ka hmk
    have S2 := Lib.hid (And.intro (gr_call (S.out.1) h) (And.intro ((S.out.2.1).below h) (And.intro ((S.out.2.2.1).below h) (And.intro ((S.out.2.2.2.1).below h) (And.intro ((S.out.2.2.2.2.1).below h) (And.intro ((S.out.2.2.2.2.2.1).call h) (And.intro ((S.out.2.2.2.2.2.2).below h) (x9))))))))
    clear S h x9
    have S := Lib.hid S2.out
    clear S2
    go_wp2_with (fail)
    have hmk := fun W => mk_zeros3 W
    go_region_with (first
      | (go_at_call 35; refine (shown_at _).mono ?_; rintro e Wa ⟨Aa, ca, rfl, ka, ha⟩)
      | (go_at_call 18; refine (hv3 _ _ _ _ ?_ ?_).mono ?_; (first | exact ka.below (gr_alloc (Below.refl _ _) _) | exact ka); (first | exact Blk.new _ _ _ | exact Blk.call (Blk.new W17 _ _) ha | exact Blk.call (Blk.drew (Blk.new W17 _ _)) ha | exact Blk.call (Blk.new (W17).drew _ _) ha); rintro e W18 ⟨v10, rfl, x9, hh⟩))
    all_goals (
      have h : Below W17.heap.size W17 W18 := by
        first
          | exact gr_call (gr_drew (Below.refl _ _)) (gr_call ha (gr_call (gr_alloc (Below.refl _ _) _) hh))
          | exact gr_call (gr_call (gr_drew (gr_alloc (Below.refl _ _) _)) ha) hh
          | exact gr_call (gr_call (gr_alloc (gr_drew (Below.refl _ _)) _) ha) hh
      clear ha hh ka hmk
      have S2 := Lib.hid (And.intro (gr_call (S.out.1) h) (And.intro ((S.out.2.1).below h) (And.intro ((S.out.2.2.1).below h) (And.intro ((S.out.2.2.2.1).below h) (And.intro ((S.out.2.2.2.2.1).below h) (And.intro ((S.out.2.2.2.2.2.1).call h) (And.intro ((S.out.2.2.2.2.2.2.1).below h) (And.intro ((S.out.2.2.2.2.2.2.2).below h) (x9)))))))))
      clear S h x9
      have S := Lib.hid S2.out
      clear S2
      go_wp2_with (fail)
      have ha := gr_alloc (Below.refl W18.heap.size W18) (.cells #[.int .i64 0, .int .i64 2] 3)
      have hg := graph_at 2 [0, 2] (by decide) gC (by decide +kernel) (.slice (some ⟨W18.heap.size, 0, none⟩) 2 2) (W18.alloc (.cells #[.int .i64 0, .int .i64 2] 3)) (nats_lit (Blk.new _ _ _) rfl rfl)
      skip
      refine hg.mono ?_
      rintro e W19 ⟨AW19, cW19, rfl, k, h0⟩
      have h := gr_call ha h0
      clear hg
      have S2 := Lib.hid (And.intro (gr_call (S.out.1) h) (And.intro ((S.out.2.1).below h) (And.intro ((S.out.2.2.1).below h) (And.intro ((S.out.2.2.2.1).below h) (And.intro ((S.out.2.2.2.2.1).below h) (And.intro ((S.out.2.2.2.2.2.1).call h) (And.intro ((S.out.2.2.2.2.2.2.1).below h) (And.intro ((S.out.2.2.2.2.2.2.2.1).below h) (And.intro ((S.out.2.2.2.2.2.2.2.2).below h) (k))))))))))
      clear S h k ha h0
      have S := Lib.hid S2.out
      clear S2
      have hp := check_code 2 gC (by decide) AW19 cW19 W19 (S.out.2.2.2.2.2.2.2.2.2)
      rw [kn_chC1, kn_chC2] at hp
      go_wp2_with (fail)
      refine hp.mono ?_
      rintro e W20 ⟨rfl, h⟩
      clear hp
      have S2 := Lib.hid (And.intro (gr_call (S.out.1) h) (And.intro ((S.out.2.1).below h) (And.intro ((S.out.2.2.1).below h) (And.intro ((S.out.2.2.2.1).below h) (And.intro ((S.out.2.2.2.2.1).below h) (And.intro ((S.out.2.2.2.2.2.1).call h) (And.intro ((S.out.2.2.2.2.2.2.1).below h) (And.intro ((S.out.2.2.2.2.2.2.2.1).below h) ((S.out.2.2.2.2.2.2.2.2.1).below h)))))))))
      clear S h
      have S := Lib.hid S2.out
      clear S2
      go_wp2_with (fail)
      have ha := gr_alloc (Below.refl W20.heap.size W20) (.cells #[.int .i64 1, .int .i64 0, .int .i64 0, .int .i64 1] 3)
      have hg := graph_at 2 [1, 0, 0, 1] (by decide) gD (by decide +kernel) (.slice (some ⟨W20.heap.size, 0, none⟩) 4 4) (W20.alloc (.cells #[.int .i64 1, .int .i64 0, .int .i64 0, .int .i64 1] 3)) (nats_lit (Blk.new _ _ _) rfl rfl)
      skip
      refine hg.mono ?_
      rintro e W21 ⟨AW21, cW21, rfl, k, h0⟩
      have h := gr_call ha h0
      clear hg
      have S2 := Lib.hid (And.intro (gr_call (S.out.1) h) (And.intro ((S.out.2.1).below h) (And.intro ((S.out.2.2.1).below h) (And.intro ((S.out.2.2.2.1).below h) (And.intro ((S.out.2.2.2.2.1).below h) (And.intro ((S.out.2.2.2.2.2.1).call h) (And.intro ((S.out.2.2.2.2.2.2.1).below h) (And.intro ((S.out.2.2.2.2.2.2.2.1).below h) (And.intro ((S.out.2.2.2.2.2.2.2.2).below h) (k))))))))))
      clear S h k ha h0
      have S := Lib.hid S2.out
      clear S2
      have hp := check_code 2 gD (by decide) AW21 cW21 W21 (S.out.2.2.2.2.2.2.2.2.2)
      rw [kn_chD1, kn_chD2] at hp
      go_wp2_with (fail)
      refine hp.mono ?_
      rintro e W22 ⟨rfl, h⟩
      clear hp
      have S2 := Lib.hid (And.intro (gr_call (S.out.1) h) (And.intro ((S.out.2.1).below h) (And.intro ((S.out.2.2.1).below h) (And.intro ((S.out.2.2.2.1).below h) (And.intro ((S.out.2.2.2.2.1).below h) (And.intro ((S.out.2.2.2.2.2.1).call h) (And.intro ((S.out.2.2.2.2.2.2.1).below h) (And.intro ((S.out.2.2.2.2.2.2.2.1).below h) ((S.out.2.2.2.2.2.2.2.2.1).below h)))))))))
      clear S h
      have S := Lib.hid S2.out
      clear S2
      go_wp2_with (fail)
      have ha := gr_alloc (Below.refl W22.heap.size W22) (.cells #[.bool false, .bool true, .bool false, .bool true] 4)
      have hp := same_b [false, true, false, true] v1 (.slice (some ⟨W22.heap.size, 0, none⟩) 4 4) (by decide) (W22.alloc (.cells #[.bool false, .bool true, .bool false, .bool true] 4)) ((S.out.2.1).below ha) (bools_lit (Blk.new _ _ _) rfl rfl)
      refine hp.mono ?_
      rintro e W23 ⟨rfl, h0⟩
      have h := gr_call ha h0
      clear hp
      have S2 := Lib.hid (And.intro (gr_call (S.out.1) h) (And.intro ((S.out.2.2.1).below h) (And.intro ((S.out.2.2.2.1).below h) (And.intro ((S.out.2.2.2.2.1).below h) (And.intro ((S.out.2.2.2.2.2.1).call h) (And.intro ((S.out.2.2.2.2.2.2.1).below h) (And.intro ((S.out.2.2.2.2.2.2.2.1).below h) ((S.out.2.2.2.2.2.2.2.2).below h))))))))
      clear S h ha h0
      have S := Lib.hid S2.out
      clear S2
      go_wp2_with (fail)
      have ha := gr_alloc (Below.refl W23.heap.size W23) (.cells #[.int .i64 2, .int .i64 1, .int .i64 1, .int .i64 0, .int .i64 0] 3)
      have hp := same_n [2, 1, 1, 0, 0] v2 (.slice (some ⟨W23.heap.size, 0, none⟩) 5 5) (by decide) (W23.alloc (.cells #[.int .i64 2, .int .i64 1, .int .i64 1, .int .i64 0, .int .i64 0] 3)) ((S.out.2.1).below ha) (nats_lit (Blk.new _ _ _) rfl rfl)
      refine hp.mono ?_
      rintro e W24 ⟨rfl, h0⟩
      have h := gr_call ha h0
      clear hp
      have S2 := Lib.hid (And.intro (gr_call (S.out.1) h) (And.intro ((S.out.2.2.1).below h) (And.intro ((S.out.2.2.2.1).below h) (And.intro ((S.out.2.2.2.2.1).call h) (And.intro ((S.out.2.2.2.2.2.1).below h) (And.intro ((S.out.2.2.2.2.2.2.1).below h) ((S.out.2.2.2.2.2.2.2).below h)))))))
      clear S h ha h0
      have S := Lib.hid S2.out
      clear S2
      go_wp2_with (fail)
      have ha := gr_alloc (Below.refl W24.heap.size W24) (.cells #[.int .i64 0, .int .i64 1, .int .i64 2, .int .i64 3, .int .i64 4] 3)
      have hp := same_n [0, 1, 2, 3, 4] v4 (.slice (some ⟨W24.heap.size, 0, none⟩) 5 5) (by decide) (W24.alloc (.cells #[.int .i64 0, .int .i64 1, .int .i64 2, .int .i64 3, .int .i64 4] 3)) ((S.out.2.1).below ha) (nats_lit (Blk.new _ _ _) rfl rfl)
      refine hp.mono ?_
      rintro e W25 ⟨rfl, h0⟩
      have h := gr_call ha h0
      clear hp
      have S2 := Lib.hid (And.intro (gr_call (S.out.1) h) (And.intro ((S.out.2.2.1).below h) (And.intro ((S.out.2.2.2.1).call h) (And.intro ((S.out.2.2.2.2.1).below h) (And.intro ((S.out.2.2.2.2.2.1).below h) ((S.out.2.2.2.2.2.2).below h))))))
      clear S h ha h0
      have S := Lib.hid S2.out
      clear S2
      go_wp2_with (fail)
      have ha := gr_alloc (Below.refl W25.heap.size W25) (.cells #[.int .i64 1, .int .i64 2, .int .i64 3] 3)
      have hp := reaches_law 0 [1, 2, 3] (by decide +kernel) (by decide +kernel) (by decide) (.slice (some ⟨W25.heap.size, 0, none⟩) 3 3) (W25.alloc (.cells #[.int .i64 1, .int .i64 2, .int .i64 3] 3)) (nats_lit (Blk.new _ _ _) rfl rfl)
      refine hp.mono ?_
      rintro e W26 ⟨rfl, h0⟩
      have h := gr_call ha h0
      clear hp
      have S2 := Lib.hid (And.intro (gr_call (S.out.1) h) (And.intro ((S.out.2.1).below h) (And.intro ((S.out.2.2.1).call h) (And.intro ((S.out.2.2.2.1).below h) (And.intro ((S.out.2.2.2.2.1).below h) ((S.out.2.2.2.2.2).below h))))))
      clear S h ha h0
      have S := Lib.hid S2.out
      clear S2
      go_wp2_with (fail)
      refine (reaches_law 3 [] (by decide +kernel) (by decide +kernel) (by decide) (.slice none 0 0) W26 (NatsAt.nil _)).mono ?_
      rintro e W27 ⟨rfl, h⟩
      have S2 := Lib.hid (And.intro (gr_call (S.out.1) h) (And.intro ((S.out.2.1).below h) (And.intro ((S.out.2.2.1).call h) (And.intro ((S.out.2.2.2.1).below h) (And.intro ((S.out.2.2.2.2.1).below h) ((S.out.2.2.2.2.2).below h))))))
      clear S h
      have S := Lib.hid S2.out
      clear S2
      go_wp2_with (fail)
      have ha := gr_alloc (Below.refl W27.heap.size W27) (.cells #[.int .i64 1, .int .i64 2, .int .i64 3] 3)
      have hp := reaches_law 1 [1, 2, 3] (by decide +kernel) (by decide +kernel) (by decide) (.slice (some ⟨W27.heap.size, 0, none⟩) 3 3) (W27.alloc (.cells #[.int .i64 1, .int .i64 2, .int .i64 3] 3)) (nats_lit (Blk.new _ _ _) rfl rfl)
      refine hp.mono ?_
      rintro e W28 ⟨rfl, h0⟩
      have h := gr_call ha h0
      clear hp
      have S2 := Lib.hid (And.intro (gr_call (S.out.1) h) (And.intro ((S.out.2.1).below h) (And.intro ((S.out.2.2.1).call h) (And.intro ((S.out.2.2.2.1).below h) (And.intro ((S.out.2.2.2.2.1).below h) ((S.out.2.2.2.2.2).below h))))))
      clear S h ha h0
      have S := Lib.hid S2.out
      clear S2
      go_wp2_with (fail)
      have ha := gr_alloc (Below.refl W28.heap.size W28) (.cells #[.int .i64 1, .int .i64 2, .int .i64 1] 3)
      have hp := same_n [1, 2, 1] v5 (.slice (some ⟨W28.heap.size, 0, none⟩) 3 3) (by decide) (W28.alloc (.cells #[.int .i64 1, .int .i64 2, .int .i64 1] 3)) ((S.out.2.1).below ha) (nats_lit (Blk.new _ _ _) rfl rfl)
      refine hp.mono ?_
      rintro e W29 ⟨rfl, h0⟩
      have h := gr_call ha h0
      clear hp
      have S2 := Lib.hid (And.intro (gr_call (S.out.1) h) (And.intro ((S.out.2.2.1).call h) (And.intro ((S.out.2.2.2.1).below h) (And.intro ((S.out.2.2.2.2.1).below h) ((S.out.2.2.2.2.2).below h)))))
      clear S h ha h0
      have S := Lib.hid S2.out
      clear S2
      go_wp2_with (fail)
      have cb0 := (S.out.2.1).cell' (i := 0) rfl
      have cb1 := (S.out.2.1).cell' (i := 1) rfl
      have cbl := (S.out.2.1).lt
      have ce := (S.out.2.2.1)
      have x9 := (S.out.2.2.2.1)
      have kb := (S.out.2.1)
      have al0 := (kb.alloc (.cells #[.int .i64 0, .int .i64 1, .int .i64 1, .int .i64 2] 3)).cell' (i := 0) rfl
      have al1 := (kb.alloc (.cells #[.int .i64 0, .int .i64 1, .int .i64 1, .int .i64 2] 3)).cell' (i := 1) rfl
      go_region_held_law (fun w' => w'.cell? ⟨W16.heap.size, 0, none⟩ = some (.int .i64 4) ∧ w'.cell? ⟨W16.heap.size, 1, none⟩ = some (.slice Ac gE.length cc))
        (first
          | ((try simp only [World.cell?_drew]); (refine ⟨?_, ?_⟩ <;> assumption))
          | exact ⟨(Blk.alloc (kb.call hX) _).cell' (i := 0) rfl, (Blk.alloc (kb.call hX) _).cell' (i := 1) rfl⟩
          | exact ⟨(kb.call h).cell' (i := 0) rfl, (kb.call h).cell' (i := 1) rfl⟩
          | exact ⟨(kb.call hX).cell' (i := 0) rfl, (kb.call hX).cell' (i := 1) rfl⟩)
        ((first
          | (go_at_call 36; refine (graph_at 4 [0, 1, 1, 2] (by decide) gE (by decide +kernel) _ _ ?_).mono ?_; (exact nats_lit (Blk.drew (Blk.new _ _ _)) rfl rfl); rintro e Wg ⟨Ag, cg, rfl, kg, hg⟩; have hX : Below W29.heap.size W29 Wg := gr_call (gr_drew (gr_alloc (Below.refl _ _) _)) hg)
          | (go_at_call 20; refine (same_g 4 gE Ac Ag cc cg (by decide) _ ?_ kg).mono ?_; (exact ce.below hX); rintro e Wh ⟨rfl, hh⟩; have hX := gr_call hX hh)
          | (go_at_call 17; refine (same_n [0] v9 _ (by decide) _ ?_ ?_).mono ?_; (exact (x9.below hX).below (gr_alloc (Below.refl _ _) _)); (exact nats_lit (Blk.new _ _ _) rfl rfl); rintro e W30 ⟨rfl, hi⟩; have h := gr_call hX (gr_call (gr_alloc (Below.refl _ _) _) hi))))
      have Z := Lib.hid (gr_call (S.out.1) h)
      clear h hi hX hh hg kg kb al0 al1 ce x9 cb0 cb1 cbl S
      go_wp2_with (fail)
      refine (awake_law _).mono ?_
      rintro e WZ ⟨rfl, h⟩
      have Y := Lib.hid (gr_call Z.out h)
      clear h Z
      go_wp2_with (fail)
      go_ret
      exact ⟨rfl, Y.out⟩
      )
    )
end Go.Proofs.Ytjgkiiohbceocaa
