/-
  BytesetBack, walked: it returns true, whatever the input; condition: the library's table lies as it is laid.
-/
import Derived.Test.YtcfdadgijnmemaaDoorSetLT
import Derived.Test.YtcfdadgijnmemaaDoorSetBk
namespace Go.Proofs.YtcfdadgijnmemaaDoor
open Go.RowKit
set_option linter.unusedVariables false
set_option linter.unusedSimpArgs false

theorem own_cells {W : World} {B : Nat} {v : Value} {L : List (Fin 256)} (h : W.ownsRow B 5 1 v L.length (cellsF L)) : ∃ A c, v = .slice A L.length c ∧ Cells W A 1 L.length (fun i _ => .int .u8 ((L[i]?.map (·.val)).getD 0 : Nat)) := by
  rcases h.2 with ⟨rfl, h0⟩ | ⟨g, cap, cur, rfl, _, hg, _, _, _, htk⟩
  · exact ⟨_, _, by rw [h0], fun hn => absurd hn (by rw [h0]; omega)⟩
  · refine ⟨_, _, rfl, fun _ => ⟨g, 0, rfl, (Array.getElem?_eq_some_iff.1 hg).1, fun i j hi hj => ?_⟩⟩
    obtain rfl : j = 0 := by omega
    rw [cell_of_row W g _ cur _ _ hg]
    have h1 : (cellsF L)[i]? = some (.int .u8 ((L[i]?.map (·.val)).getD 0 : Nat)) := by
      unfold cellsF
      rw [List.getElem?_map, List.getElem?_eq_getElem hi]; rfl
    rw [← htk, List.getElem?_take] at h1
    simp at h1
    have h2 : 0 + i * 1 + 0 = i := by omega
    rw [h2]
    exact h1.2

set_option maxRecDepth 100000 in
set_option maxHeartbeats 2000000 in
theorem law_back (p q : Nat → Bool) (w : World) (hT : TabOk w) (hw : 0 < w.heap.size) :
    Calls Tryd.prog 8 #[Value.agg #[.int .u64 (setW p 0 : Int), .int .u64 (setW p 1 : Int), .int .u64 (setW p 2 : Int), .int .u64 (setW p 3 : Int)], Value.agg #[.int .u64 (setW q 0 : Int), .int .u64 (setW q 1 : Int), .int .u64 (setW q 2 : Int), .int .u64 (setW q 3 : Int)]] w fun e w' => e = .returned (.bool true) ∧ Below w.heap.size w w' := by
  have TB : Hid (∀ W : World, Below w.heap.size w W → TabOk W ∧ 0 < W.heap.size) := Lib.hid (fun W h => ⟨hT.below h hw, Nat.lt_of_lt_of_le hw h.size⟩)
  have i0 := gr_alloc (gr_alloc (Below.refl w.heap.size w) (.cells #[Value.int .u64 (setW p 0 : Int), .int .u64 (setW p 1 : Int), .int .u64 (setW p 2 : Int), .int .u64 (setW p 3 : Int)] 28)) (.cells #[Value.int .u64 (setW q 0 : Int), .int .u64 (setW q 1 : Int), .int .u64 (setW q 2 : Int), .int .u64 (setW q 3 : Int)] 28)
  have f0 := (Blk.new w 28 #[Value.int .u64 (setW p 0 : Int), .int .u64 (setW p 1 : Int), .int .u64 (setW p 2 : Int), .int .u64 (setW p 3 : Int)]).alloc (.cells #[Value.int .u64 (setW q 0 : Int), .int .u64 (setW q 1 : Int), .int .u64 (setW q 2 : Int), .int .u64 (setW q 3 : Int)] 28)
  have g0 : Blk ((w.alloc (.cells #[Value.int .u64 (setW p 0 : Int), .int .u64 (setW p 1 : Int), .int .u64 (setW p 2 : Int), .int .u64 (setW p 3 : Int)] 28)).alloc (.cells #[Value.int .u64 (setW q 0 : Int), .int .u64 (setW q 1 : Int), .int .u64 (setW q 2 : Int), .int .u64 (setW q 3 : Int)] 28)) (w.heap.size + 1) 28 #[Value.int .u64 (setW q 0 : Int), .int .u64 (setW q 1 : Int), .int .u64 (setW q 2 : Int), .int .u64 (setW q 3 : Int)] := blk_at (by simp)
  have H0 := Lib.hid (And.intro f0 (And.intro g0 i0))
  clear f0 g0 i0 hT
  go_enter Tryd.func8, Tryd.ntmps8
  go_wp2_with (fail)
  refine (known _ (TB.out _ H0.out.2.2).1 (TB.out _ H0.out.2.2).2).mono ?_
  rintro e W1 ⟨rfl, h1⟩
  have f1 := H0.out.1.call h1
  have g1 := H0.out.2.1.call h1
  have i1 := gr_call H0.out.2.2 h1
  have a0 := f1.cell' (i := 0) rfl
  have a1 := f1.cell' (i := 1) rfl
  have a2 := f1.cell' (i := 2) rfl
  have a3 := f1.cell' (i := 3) rfl
  have H1 := Lib.hid (And.intro f1 (And.intro g1 i1))
  clear f1 g1 i1 h1
  go_wp2_with (fail)
  refine (btext p _).mono ?_
  rintro e W2 ⟨rfl, h2⟩
  have f2 := H1.out.1.call h2
  have g2 := H1.out.2.1.call h2
  have i2 := gr_call H1.out.2.2 h2
  have H2 := Lib.hid (And.intro f2 (And.intro g2 i2))
  clear h2 a0 a1 a2 a3
  have htx : ((txtP p 0).toList == (txtP q 0).toList) = eqP p q := by rw [str_beq]; exact text_eq p q
  have hpr := parses_text p
  have k3 : Hid (∀ W : World, Calls Tryd.prog 39 #[.string (txtP p 0), Value.agg #[.int .u64 (setW p 0 : Int), .int .u64 (setW p 1 : Int), .int .u64 (setW p 2 : Int), .int .u64 (setW p 3 : Int)]] W fun e w' => e = .returned (.bool true) ∧ Below W.heap.size W w') := Lib.hid (fun W => by have := lparses (txtP p 0) p W; rw [hpr] at this; exact this)
  have heq := eqSet p q
  obtain ⟨t, ht⟩ : ∃ t, t = txtP p 0 := ⟨_, rfl⟩
  obtain ⟨u, hu⟩ : ∃ u, u = txtP q 0 := ⟨_, rfl⟩
  have k4 : Hid (∀ W : World, Calls Tryd.prog 21 #[Value.agg #[.int .u64 (setW q 0 : Int), .int .u64 (setW q 1 : Int), .int .u64 (setW q 2 : Int), .int .u64 (setW q 3 : Int)]] W fun e w' => e = .returned (.string u) ∧ Below W.heap.size W w') := Lib.hid (fun W => by rw [hu]; exact btext q W)
  rw [← ht, ← hu] at htx
  rw [← ht] at k3 ⊢
  clear hpr ht hu
  obtain ⟨a0, a1, a2, a3⟩ := blk_kin4 f2
  obtain ⟨b0, b1, b2, b3⟩ := blk_kin4 g2
  clear f2 g2 i2
  generalize eqP p q = eb at htx heq
  go_wp2_with (fail)
  refine wp_region_kin_lit (by kernel_rfl) (by kernel_rfl) ?_
  repeat (go_big_quiet_step (first | (go_at_call 39; exact Calls.kin_of (k3.out _)) | (go_at_call 21; exact Calls.kin_of (k4.out _))))
  refine kin_end ?_
  intro x
  have f3 := H2.out.1.call x.below
  have i3 := gr_call H2.out.2.2 x.below
  have H3 := Lib.hid (And.intro f3 i3)
  clear f3 i3 b0 b1 b2 b3 htx heq
  go_wp2_with (fail)
  refine (blist p _ (TB.out _ H3.out.2).1 (TB.out _ H3.out.2).2).mono ?_
  rintro e W4 ⟨v, rfl, hown, h4⟩
  have f4 := H3.out.1.call h4
  have i4 := gr_call H3.out.2 h4
  obtain ⟨A, cp, rfl, hcl⟩ := own_cells hown
  obtain ⟨N, hN⟩ : ∃ N, N = (lstP p 256).length := ⟨_, rfl⟩
  have hN2 : N ≤ 256 := by rw [hN]; exact lstP_len p 256
  rw [← hN] at hcl ⊢
  have HN := Lib.hid hN
  have H4 := Lib.hid (And.intro f4 (And.intro i4 hcl))
  clear f4 i4 hcl hown h4 a0 a1 a2 a3 hN
  go_wp2_with (fail)
  go_loopw [8, 9] (fun a i wr => ∃ k : Nat, k ≤ N ∧ i = .int .i64 (k : Int) ∧ a = .int .i64 (lastAt (lstP p 256) k) ∧ Below W4.heap.size W4 wr) (fun _ i _ => N - (intOf i).toNat)
  case atStart => exact ⟨0, by omega, rfl, rfl, Below.refl _ _⟩
  case round =>
    obtain ⟨k, hk, rfl, rfl, hB⟩ := hrel
    have hf := H4.out.1.call hB
    have a0 := hf.cell' (i := 0) rfl
    have a1 := hf.cell' (i := 1) rfl
    have a2 := hf.cell' (i := 2) rfl
    have a3 := hf.cell' (i := 3) rfl
    have hlb := lastAt_bound (lstP p 256) k (by rw [← HN.out]; exact hk)
    obtain ⟨la, hla⟩ : ∃ la, la = lastAt (lstP p 256) k := ⟨_, rfl⟩
    rw [← hla] at hlb ⊢
    obtain ⟨hl1, hl2⟩ := hlb
    have hi5 := gr_call H4.out.2.1 hB
    have H5 := Lib.hid (And.intro hf (And.intro hi5 (And.intro hB hla)))
    clear hf hi5 hla
    by_cases hlt : k < N
    · have hkl : k < (lstP p 256).length := by rw [← HN.out]; exact hlt
      obtain ⟨x, hx⟩ : ∃ x, x = (lstP p 256)[k].val := ⟨_, rfl⟩
      have hxl : x < 256 := by rw [hx]; exact (lstP p 256)[k].isLt
      have kn : Hid (∀ W : World, Below w.heap.size w W → Calls Tryd.prog 33 #[Value.agg #[.int .u64 (setW p 0 : Int), .int .u64 (setW p 1 : Int), .int .u64 (setW p 2 : Int), .int .u64 (setW p 3 : Int)], .int .i64 (la + 1)] W fun e w' => e = .returned (.tuple #[.int .i64 (x : Int), .int .i64 0]) ∧ Below W.heap.size W w') := Lib.hid (fun W h => by
        have := bnext p (la + 1) W (TB.out W h).1 (TB.out W h).2
        rw [show nxtP p (la + 1) = some x from by rw [H5.out.2.2.2, hx]; exact nxt_lst p k hkl] at this
        exact this)
      have hsucc : Hid (lastAt (lstP p 256) (k + 1) = (x : Int)) := Lib.hid (by rw [lastAt_succ _ k hkl, hx])
      have hcell : Hid (∀ W : World, Below W4.heap.size W4 W → ∃ ab ao, A = some ⟨ab, ao, none⟩ ∧ W.cell? ⟨ab, ao + k, none⟩ = some (.int .u8 (x : Int))) := Lib.hid (fun W h => by
        obtain ⟨ab, ao, ea, _, hc⟩ := (H4.out.2.2.below h) (by omega)
        refine ⟨ab, ao, ea, ?_⟩
        have this : W.cell? ⟨ab, ao + k * 1 + 0, none⟩ = some (.int .u8 ((((lstP p 256)[k]?.map (·.val)).getD 0 : Nat) : Int)) := hc k 0 hlt (by decide)
        rw [List.getElem?_eq_getElem hkl] at this
        simpa [hx] using this)
      clear hx hB
      go_wp2_with (fail)
      refine (kn.out _ H5.out.2.1).mono ?_
      rintro e W6 ⟨rfl, h6⟩
      have hB6 := gr_call H5.out.2.2.1 h6
      obtain ⟨ab, ao, rfl, hce⟩ := hcell.out _ hB6
      have H6 := Lib.hid hB6
      clear hB6 h6
      go_wp2_with (fail)
      exact ⟨⟨k + 1, by omega, by go_num, by rw [hsucc.out], H6.out⟩, by simp [intOf]; omega⟩
    · obtain rfl : k = N := by omega
      have kn : Hid (∀ W : World, Below w.heap.size w W → Calls Tryd.prog 33 #[Value.agg #[.int .u64 (setW p 0 : Int), .int .u64 (setW p 1 : Int), .int .u64 (setW p 2 : Int), .int .u64 (setW p 3 : Int)], .int .i64 (la + 1)] W fun e w' => e = .returned (.tuple #[.int .i64 0, .int .i64 6]) ∧ Below W.heap.size W w') := Lib.hid (fun W h => by
        have := bnext p (la + 1) W (TB.out W h).1 (TB.out W h).2
        rw [show nxtP p (la + 1) = none from by rw [H5.out.2.2.2, HN.out]; exact nxt_end p] at this
        exact this)
      have hcnt : Hid (cntP p 256 = k) := Lib.hid (by rw [HN.out]; exact (lstP_cnt p 256 (Nat.le_refl _)).symm)
      clear hB
      go_wp2_with (fail)
      refine (kn.out _ H5.out.2.1).mono ?_
      rintro e W6 ⟨rfl, h6⟩
      have hf6 := H5.out.1.call h6
      have b0 := hf6.cell' (i := 0) rfl
      have b1 := hf6.cell' (i := 1) rfl
      have b2 := hf6.cell' (i := 2) rfl
      have b3 := hf6.cell' (i := 3) rfl
      have H6 := Lib.hid (gr_call H5.out.2.1 h6)
      clear hf6 h6
      go_wp2_with (fail)
      refine (bcount p _).mono ?_
      rintro e W7 ⟨rfl, h7⟩
      rw [hcnt.out]
      have H7 := Lib.hid (gr_call H6.out h7)
      clear h7
      go_wp2_with (fail)
      go_ret
      exact ⟨rfl, H7.out⟩
end Go.Proofs.YtcfdadgijnmemaaDoor
