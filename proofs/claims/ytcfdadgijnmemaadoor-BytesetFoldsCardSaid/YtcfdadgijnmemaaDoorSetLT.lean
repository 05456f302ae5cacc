/-
  BytesetTexts, walked: it returns true, whatever the input; condition: the library's table lies as it is laid.
-/
import Derived.Test.YtcfdadgijnmemaaDoorSetY
import Derived.Test.YtcfdadgijnmemaaDoorKin
namespace Go.Proofs.YtcfdadgijnmemaaDoor
open Go.RowKit
set_option linter.unusedVariables false
set_option linter.unusedSimpArgs false

theorem eqP_self (p : Nat → Bool) : eqP p p = true := eqP_yes (fun _ _ => rfl)
theorem blk_kin4 {w : World} {g : Nat} {p : Nat → Bool} (h : Blk w g 28 #[Value.int .u64 (setW p 0 : Int), .int .u64 (setW p 1 : Int), .int .u64 (setW p 2 : Int), .int .u64 (setW p 3 : Int)]) : (∀ x : Kin w, x.world.cell? ⟨g, 0, none⟩ = some (.int .u64 (setW p 0 : Int))) ∧ (∀ x : Kin w, x.world.cell? ⟨g, 1, none⟩ = some (.int .u64 (setW p 1 : Int))) ∧ (∀ x : Kin w, x.world.cell? ⟨g, 2, none⟩ = some (.int .u64 (setW p 2 : Int))) ∧ (∀ x : Kin w, x.world.cell? ⟨g, 3, none⟩ = some (.int .u64 (setW p 3 : Int))) :=
  ⟨h.kin (i := 0) rfl, h.kin (i := 1) rfl, h.kin (i := 2) rfl, h.kin (i := 3) rfl⟩

set_option maxRecDepth 100000 in
set_option maxHeartbeats 4000000 in
theorem law_texts (p : Nat → Bool) (s t : ByteArray) (w : World) (hT : TabOk w) (hw : 0 < w.heap.size) :
    Calls Tryd.prog 4 #[Value.agg #[.int .u64 (setW p 0 : Int), .int .u64 (setW p 1 : Int), .int .u64 (setW p 2 : Int), .int .u64 (setW p 3 : Int)], .string s, .string t] w fun e w' => e = .returned (.bool true) ∧ Below w.heap.size w w' := by
  have HT := Lib.hid hT
  have FS := Blk.new w 28 #[Value.int .u64 (setW p 0 : Int), .int .u64 (setW p 1 : Int), .int .u64 (setW p 2 : Int), .int .u64 (setW p 3 : Int)]
  have I0 := gr_alloc (Below.refl w.heap.size w) (.cells #[Value.int .u64 (setW p 0 : Int), .int .u64 (setW p 1 : Int), .int .u64 (setW p 2 : Int), .int .u64 (setW p 3 : Int)] 28)
  have HF := Lib.hid (And.intro FS I0)
  clear FS I0 hT
  by_cases hl : (1100 : Int) < s.size
  · go_enter Tryd.func4, Tryd.ntmps4
    go_wp2_with (fail)
    refine (awake _ (HT.out.below HF.out.2 hw) (Nat.lt_of_lt_of_le hw HF.out.2.size)).mono ?_
    rintro e W1 ⟨rfl, h1⟩
    have HH := Lib.hid h1
    clear h1
    go_wp2_with (fail)
    go_ret
    exact ⟨rfl, gr_call HF.out.2 HH.out⟩
  · by_cases hl2 : (1100 : Int) < t.size
    · go_enter Tryd.func4, Tryd.ntmps4
      go_wp2_with (fail)
      refine (awake _ (HT.out.below HF.out.2 hw) (Nat.lt_of_lt_of_le hw HF.out.2.size)).mono ?_
      rintro e W1 ⟨rfl, h1⟩
      have HH := Lib.hid h1
      clear h1
      go_wp2_with (fail)
      go_ret
      exact ⟨rfl, gr_call HF.out.2 HH.out⟩
    · have hs : t.size ≤ 1000000000 := by omega
      go_enter Tryd.func4, Tryd.ntmps4
      go_wp2_with (fail)
      refine (bparse s _).mono ?_
      rintro e W1 ⟨rfl, h1⟩
      obtain ⟨q, hq⟩ : ∃ q, q = (parseP s).1 := ⟨_, rfl⟩
      obtain ⟨er, her⟩ : ∃ er, er = (parseP s).2 := ⟨_, rfl⟩
      rw [← hq, ← her]
      have HQ := Lib.hid (And.intro hq her)
      have H1 := Lib.hid (And.intro (gr_alloc (gr_call HF.out.2 h1) (.cells #[Value.int .u64 (setW q 0 : Int), .int .u64 (setW q 1 : Int), .int .u64 (setW q 2 : Int), .int .u64 (setW q 3 : Int)] 28)) (And.intro ((HF.out.1.call h1).alloc (.cells #[Value.int .u64 (setW q 0 : Int), .int .u64 (setW q 1 : Int), .int .u64 (setW q 2 : Int), .int .u64 (setW q 3 : Int)] 28)) (Blk.new W1 28 #[Value.int .u64 (setW q 0 : Int), .int .u64 (setW q 1 : Int), .int .u64 (setW q 2 : Int), .int .u64 (setW q 3 : Int)])))
      clear h1 hq her
      go_wp2_with (fail)
      refine (rparse s _).mono ?_
      rintro e W2 ⟨rfl, h2⟩
      rw [← HQ.out.1, ← HQ.out.2]
      obtain ⟨X, hX⟩ : ∃ X, X = W2.alloc (.cells #[Value.int .u64 (setW q 0 : Int), .int .u64 (setW q 1 : Int), .int .u64 (setW q 2 : Int), .int .u64 (setW q 3 : Int)] 28) := ⟨_, rfl⟩
      have i2 := gr_alloc (gr_call H1.out.1 h2) (.cells #[Value.int .u64 (setW q 0 : Int), .int .u64 (setW q 1 : Int), .int .u64 (setW q 2 : Int), .int .u64 (setW q 3 : Int)] 28)
      have f2 := (H1.out.2.1.call h2).alloc (.cells #[Value.int .u64 (setW q 0 : Int), .int .u64 (setW q 1 : Int), .int .u64 (setW q 2 : Int), .int .u64 (setW q 3 : Int)] 28)
      have g2 := (H1.out.2.2.call h2).alloc (.cells #[Value.int .u64 (setW q 0 : Int), .int .u64 (setW q 1 : Int), .int .u64 (setW q 2 : Int), .int .u64 (setW q 3 : Int)] 28)
      have k2 := Blk.new W2 28 #[Value.int .u64 (setW q 0 : Int), .int .u64 (setW q 1 : Int), .int .u64 (setW q 2 : Int), .int .u64 (setW q 3 : Int)]
      rw [← hX] at i2 f2 g2 k2
      have H2 := Lib.hid (And.intro i2 hX)
      have T2 := HT.out.below i2 hw
      have hw2 := Nat.lt_of_lt_of_le hw i2.size
      obtain ⟨a0, a1, a2, a3⟩ := blk_kin4 f2
      obtain ⟨b0, b1, b2, b3⟩ := blk_kin4 g2
      obtain ⟨c0, c1, c2, c3⟩ := blk_kin4 k2
      have T3 : Hid (∀ x : Kin X, TabOk x.world ∧ 0 < x.world.heap.size) := Lib.hid (fun x => ⟨T2.below x.below hw2, Nat.lt_of_lt_of_le hw2 x.below.size⟩)
      have heq := eqSet q q
      rw [eqP_self] at heq
      clear h2 i2 f2 g2 k2 hX T2 hw2
      go_wp2_with (fail)
      rw [← H2.out.2]
      refine wp_region_kin_lit (by kernel_rfl) (by kernel_rfl) ?_
      repeat (go_big_quiet_step (first | (go_at_call 21; exact Calls.kin_of (btext p _)) | (go_at_call 22; exact Calls.kin_of (rtext p _)) | (go_at_call 23; exact Calls.kin_of (ball p t hs _)) | (go_at_call 24; exact Calls.kin_of (rall p t hs _)) | (go_at_call 10; exact Calls.kin_of (awake _ (T3.out _).1 (T3.out _).2))))
      refine kin_end ?_
      intro x
      have HX := Lib.hid x.below
      go_wp2_with (fail)
      go_ret
      exact ⟨rfl, gr_call H2.out.1 HX.out⟩
end Go.Proofs.YtcfdadgijnmemaaDoor
