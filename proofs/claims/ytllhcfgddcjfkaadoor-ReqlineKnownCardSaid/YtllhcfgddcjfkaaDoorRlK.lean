/-
  awake, ReqlineParts, ReqlineParses and ReqlineLong, walked: they return true, whatever the input; condition: a variable of the library is an int.
-/
import Derived.Test.YtllhcfgddcjfkaaDoorRlJ
namespace Go.Proofs.YtllhcfgddcjfkaaDoor
open Go.RowKit
set_option linter.unusedVariables false
set_option linter.unusedSimpArgs false

theorem ex_one : parV ⟨#[71, 69, 84, 32, 47, 97, 63, 98, 32, 72, 84, 84, 80, 47, 49, 46, 49]⟩ = .tuple #[.agg #[.string ⟨#[71, 69, 84]⟩, .string ⟨#[47, 97, 63, 98]⟩], .int .i64 0, .int .i64 17] := by
  have e : (⟨#[71, 69, 84, 32, 47, 97, 63, 98, 32, 72, 84, 84, 80, 47, 49, 46, 49]⟩ : ByteArray) = textL ⟨#[71, 69, 84]⟩ ⟨#[47, 97, 63, 98]⟩ := by decide +kernel
  have h : txtE ⟨#[71, 69, 84]⟩ ⟨#[47, 97, 63, 98]⟩ = 0 := by decide +kernel
  obtain ⟨h1, h2, h3⟩ := text_back h
  rw [e]
  unfold parV
  rw [(parA_full h3).1, (parA_full h3).2.1, h1, h2, h3, parP_zero h3]
  rfl
theorem ex_two : parS (byS ⟨#[71, 69, 84, 32, 47, 97, 32, 72, 84, 84, 80, 47, 49, 46, 48]⟩) 15 = 400 ∧ (parP (byS ⟨#[71, 69, 84, 32, 47, 97, 32, 72, 84, 84, 80, 47, 49, 46, 48]⟩) 15 : Int) = 14 := by decide +kernel

set_option maxRecDepth 100000 in
set_option maxHeartbeats 4000000 in
theorem awake (w : World) (hm : MaxOk w) :
    Calls Tryd.prog 11 #[] w fun e W' => e = .returned (.bool true) ∧ Below w.heap.size w W' := by
  have heq := eqLine ⟨#[71, 69, 84]⟩ ⟨#[47, 97, 63, 98]⟩ ⟨#[71, 69, 84]⟩ ⟨#[47, 97, 63, 98]⟩
  simp only [decide_true, Bool.and_self] at heq
  have HM := Lib.hid hm
  clear hm
  go_enter Tryd.func11, Tryd.ntmps11
  go_wp2_with (fail)
  refine (bparse _ (by decide) _ HM.out).mono ?_
  rintro e W1 ⟨rfl, h1⟩
  rw [ex_one]
  have z1 := gr_alloc h1 (.cells #[.string ⟨#[71, 69, 84]⟩, .string ⟨#[47, 97, 63, 98]⟩] 29)
  have b1 := Blk.new W1 29 #[.string ⟨#[71, 69, 84]⟩, .string ⟨#[47, 97, 63, 98]⟩]
  have x0 := b1.cell' (i := 0) rfl
  have x1 := b1.cell' (i := 1) rfl
  have xl := b1.lt
  have H1 := Lib.hid z1
  clear z1 b1 h1
  go_wp2_with (fail)
  refine (bparses _ (by decide) _ _ ex_two.1 ex_two.2 _ (HM.out.below H1.out)).mono ?_
  rintro e W2 ⟨rfl, h2⟩
  have H2 := Lib.hid (gr_call H1.out h2)
  clear h2
  go_wp2_with (fail)
  go_ret
  exact ⟨rfl, H2.out⟩

set_option maxRecDepth 100000 in
set_option maxHeartbeats 4000000 in
theorem law_parts (s : ByteArray) (hs : s.size ≤ 9223372036854775807) (w : World) (hm : MaxOk w) :
    Calls Tryd.prog 3 #[.string s] w fun e W' => e = .returned (.bool true) ∧ Below w.heap.size w W' := by
  have HM := Lib.hid hm
  clear hm
  go_enter Tryd.func3, Tryd.ntmps3
  go_wp2_with (fail)
  refine (bheavy s hs _).mono ?_
  rintro e W0 ⟨rfl, rfl⟩
  by_cases hh : (2000 : Int) < (s.size : Int)
  · rw [decide_eq_true hh]
    go_wp2_with (fail)
    refine (awake _ HM.out).mono ?_
    rintro e W1 ⟨rfl, h1⟩
    have H1 := Lib.hid h1
    clear h1
    go_wp2_with (fail)
    go_ret
    exact ⟨rfl, H1.out⟩
  · rw [decide_eq_false hh]
    have hz : s.size ≤ 1000000 := by omega
    go_wp2_with (fail)
    refine (bparts s hz _ HM.out).mono ?_
    rintro e W1 ⟨rfl, h1⟩
    have H1 := Lib.hid h1
    clear h1
    go_wp2_with (fail)
    refine (rparts s hz _).mono ?_
    rintro e W2 ⟨rfl, h2⟩
    have H2 := Lib.hid (gr_call H1.out h2)
    clear h2
    go_wp2_with (fail)
    refine (blong s hz _ (HM.out.below H2.out)).mono ?_
    rintro e W3 ⟨rfl, h3⟩
    have H3 := Lib.hid (gr_call H2.out h3)
    clear h3
    go_wp2_with (fail)
    refine (rlong s hz _).mono ?_
    rintro e W4 ⟨rfl, h4⟩
    have H4 := Lib.hid (gr_call H3.out h4)
    clear h4
    go_wp2_with (fail)
    refine (awake _ (HM.out.below H4.out)).mono ?_
    rintro e W5 ⟨rfl, h5⟩
    have H5 := Lib.hid (gr_call H4.out h5)
    clear h5
    go_wp2_with (fail)
    go_ret
    exact ⟨rfl, H5.out⟩

set_option maxRecDepth 100000 in
set_option maxHeartbeats 4000000 in
theorem law_parses (s : ByteArray) (hs : s.size ≤ 9223372036854775807) (w : World) (hm : MaxOk w) :
    Calls Tryd.prog 4 #[.string s] w fun e W' => e = .returned (.bool true) ∧ Below w.heap.size w W' := by
  have HM := Lib.hid hm
  clear hm
  go_enter Tryd.func4, Tryd.ntmps4
  by_cases hh : (300 : Int) < (s.size : Int)
  · go_wp2_with (fail)
    refine (awake _ HM.out).mono ?_
    rintro e W1 ⟨rfl, h1⟩
    have H1 := Lib.hid h1
    clear h1
    go_wp2_with (fail)
    go_ret
    exact ⟨rfl, H1.out⟩
  · have hz : s.size ≤ 1000000 := by omega
    have heq := eqLine (parA s) (parB s) (parA s) (parB s)
    simp only [decide_true, Bool.and_self] at heq
    go_wp2_with (fail)
    refine (bparse s hz _ HM.out).mono ?_
    rintro e W1 ⟨rfl, h1⟩
    have y1 := Blk.new W1 29 #[.string (parA s), .string (parB s)]
    have H1 := Lib.hid (And.intro y1 (gr_alloc h1 (.cells #[.string (parA s), .string (parB s)] 29)))
    clear h1 y1
    unfold parV
    go_wp2_with (fail)
    refine (rparse s hz _).mono ?_
    rintro e W2 ⟨rfl, h2⟩
    have y1 := (H1.out.1.call h2).alloc (.cells #[.string (parA s), .string (parB s)] 29)
    have y2 := Blk.new W2 29 #[.string (parA s), .string (parB s)]
    have a0 := y1.cell' (i := 0) rfl
    have a1 := y1.cell' (i := 1) rfl
    have al := y1.lt
    have b0 := y2.cell' (i := 0) rfl
    have b1 := y2.cell' (i := 1) rfl
    have bl := y2.lt
    have H2 := Lib.hid (gr_alloc (gr_call H1.out.2 h2) (.cells #[.string (parA s), .string (parB s)] 29))
    clear h2 y1 y2
    unfold parV
    go_wp2_with (fail)
    refine (awake _ (HM.out.below H2.out)).mono ?_
    rintro e W5 ⟨rfl, h5⟩
    have H5 := Lib.hid (gr_call H2.out h5)
    clear h5
    go_wp2_with (fail)
    go_ret
    exact ⟨rfl, H5.out⟩
end Go.Proofs.YtllhcfgddcjfkaaDoor
