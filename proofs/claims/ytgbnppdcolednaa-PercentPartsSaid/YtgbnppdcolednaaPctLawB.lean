/-
  The chapter's examples of percent: awake and PercentKnown return true; condition: none.
-/
import Derived.Test.YtgbnppdcolednaaPctLawA
namespace Go.Proofs.Ytgbnppdcolednaa
open Go.RowKit
set_option linter.unusedVariables false
set_option linter.unusedSimpArgs false

theorem k_d1 (w : World) : Calls Try.prog 15 #[.string ⟨#[37, 52, 49, 37]⟩] w fun e w' => e = .returned (.tuple #[.string ⟨#[]⟩, .agg #[.int .i64 3, .int .i64 3]]) ∧ Below w.heap.size w w' :=
  (pdecode _ w (by decide)).mono fun e w' h => ⟨by rw [h.1, show rOut ⟨#[37, 52, 49, 37]⟩ = ⟨#[]⟩ from by decide +kernel, show rErr ⟨#[37, 52, 49, 37]⟩ = 3 from by decide +kernel, show rAt ⟨#[37, 52, 49, 37]⟩ = 3 from by decide +kernel], h.2⟩

theorem k_c1 (w : World) : Calls Try.prog 11 #[.string ⟨#[97, 37, 50, 48, 98]⟩, .int .i64 4] w fun e w' => e = .returned (.tuple #[.string ⟨#[97, 37, 50, 48]⟩, .int .i64 0]) ∧ Below w.heap.size w w' :=
  (pcut _ 4 w (by decide)).mono fun e w' h => ⟨by rw [h.1, show cutS ⟨#[97, 37, 50, 48, 98]⟩ 4 = ⟨#[97, 37, 50, 48]⟩ from by decide +kernel, show cutE ⟨#[97, 37, 50, 48, 98]⟩ 4 = 0 from by decide +kernel], h.2⟩

theorem k_o1 (w : World) : Calls Try.prog 13 #[.string ⟨#[97, 37, 50, 48, 98]⟩, .int .i64 2] w fun e w' => e = .returned (.tuple #[.int .i64 4, .int .i64 0]) ∧ Below w.heap.size w w' :=
  (poffset _ 2 w (by decide)).mono fun e w' h => ⟨by rw [h.1, show offV ⟨#[97, 37, 50, 48, 98]⟩ 2 = 4 from by decide +kernel, show offE ⟨#[97, 37, 50, 48, 98]⟩ 2 = 0 from by decide +kernel], h.2⟩

theorem k_s1 (w : World) : Calls Try.prog 28 #[.string ⟨#[97, 37, 50, 102, 98]⟩, .string ⟨#[97, 47, 98]⟩] w fun e w' => e = .returned (.bool true) ∧ Below w.heap.size w w' :=
  (psays _ _ w (by decide)).mono fun e w' h => ⟨by rw [h.1, show (decide (okS ⟨#[97, 37, 50, 102, 98]⟩) && decide (rOut ⟨#[97, 37, 50, 102, 98]⟩ = ⟨#[97, 47, 98]⟩)) = true from by decide +kernel], h.2⟩

theorem k_e1 (w : World) : Calls Try.prog 21 #[.string ⟨#[97, 47, 98, 32, 99, 37]⟩, .agg #[.int .u64 140874927308800, .int .u64 576460743713488896, .int .u64 0, .int .u64 0]] w fun e w' => e = .returned (.string ⟨#[97, 47, 98, 37, 50, 48, 99, 37, 50, 53]⟩) ∧ Below w.heap.size w w' :=
  (pencode letS letS_lt _ w (by decide)).mono fun e w' h => ⟨by rw [h.1, show encS letS ⟨#[97, 47, 98, 32, 99, 37]⟩ = ⟨#[97, 47, 98, 37, 50, 48, 99, 37, 50, 53]⟩ from by decide +kernel], h.2⟩

theorem k_i1 (w : World) : Calls Try.prog 25 #[.string ⟨#[97, 47, 37, 50, 48]⟩, .agg #[.int .u64 140874927308800, .int .u64 576460743713488896, .int .u64 0, .int .u64 0]] w fun e w' => e = .returned (.bool true) ∧ Below w.heap.size w w' :=
  (pis letS letS_lt _ w (by decide)).mono fun e w' h => ⟨by rw [h.1, show (decide (okS ⟨#[97, 47, 37, 50, 48]⟩) && decide (canS letS ⟨#[97, 47, 37, 50, 48]⟩ = ⟨#[97, 47, 37, 50, 48]⟩)) = true from by decide +kernel], h.2⟩

set_option maxRecDepth 100000 in
set_option maxHeartbeats 2000000 in
theorem awake (w : World) : Calls Try.prog 10 #[] w fun e w' => e = .returned (.bool true) ∧ Below w.heap.size w w' := by
  go_enter Try.func10, Try.ntmps10
  have I0 : Below w.heap.size w w := Below.refl _ _
  go_wp2_with (fail)
  refine (k_d1 _).mono ?_
  rintro e W1 ⟨rfl, h1⟩
  have I1c := gr_call I0 h1
  have F1 := Blk.new (W1) 33 #[.int .i64 3, .int .i64 3]
  have I1a1 := gr_alloc I1c (.cells #[.int .i64 3, .int .i64 3] 33)
  clear h1
  go_wp2_with (fail)
  refine (k_c1 _).mono ?_
  rintro e W2 ⟨rfl, h2⟩
  have I2c := gr_call I1a1 h2
  have F1_2 := F1.call h2
  clear h2
  go_wp2_with (fail)
  refine (k_o1 _).mono ?_
  rintro e W3 ⟨rfl, h3⟩
  have I3c := gr_call I2c h3
  have F1_3 := F1_2.call h3
  clear h3
  go_wp2_with (fail)
  refine (k_s1 _).mono ?_
  rintro e W4 ⟨rfl, h4⟩
  have I4c := gr_call I3c h4
  have F1_4 := F1_3.call h4
  clear h4
  have F1c0 := F1_4.cell' (i := 0) (v := .int .i64 3) rfl
  have F1c1 := F1_4.cell' (i := 1) (v := .int .i64 3) rfl
  go_wp2_with (fail)
  refine (letters _).mono ?_
  rintro e W5 ⟨rfl, h5⟩
  have I5c := gr_call I4c h5
  have F1_5 := F1_4.call h5
  clear h5
  go_wp2_with (fail)
  refine (k_e1 _).mono ?_
  rintro e W6 ⟨rfl, h6⟩
  have I6c := gr_call I5c h6
  have F1_6 := F1_5.call h6
  clear h6
  go_wp2_with (fail)
  refine (letters _).mono ?_
  rintro e W7 ⟨rfl, h7⟩
  have I7c := gr_call I6c h7
  have F1_7 := F1_6.call h7
  clear h7
  go_wp2_with (fail)
  refine (k_i1 _).mono ?_
  rintro e W8 ⟨rfl, h8⟩
  have I8c := gr_call I7c h8
  have F1_8 := F1_7.call h8
  clear h8
  go_wp2_with (fail)
  go_ret
  exact ⟨rfl, I8c⟩

theorem k_d2 (w : World) : Calls Try.prog 15 #[.string ⟨#[37, 52, 103]⟩] w fun e w' => e = .returned (.tuple #[.string ⟨#[]⟩, .agg #[.int .i64 3, .int .i64 0]]) ∧ Below w.heap.size w w' :=
  (pdecode _ w (by decide)).mono fun e w' h => ⟨by rw [h.1, show rOut ⟨#[37, 52, 103]⟩ = ⟨#[]⟩ from by decide +kernel, show rErr ⟨#[37, 52, 103]⟩ = 3 from by decide +kernel, show rAt ⟨#[37, 52, 103]⟩ = 0 from by decide +kernel], h.2⟩

theorem k_d3 (w : World) : Calls Try.prog 15 #[.string ⟨#[37, 37, 52, 49]⟩] w fun e w' => e = .returned (.tuple #[.string ⟨#[]⟩, .agg #[.int .i64 3, .int .i64 0]]) ∧ Below w.heap.size w w' :=
  (pdecode _ w (by decide)).mono fun e w' h => ⟨by rw [h.1, show rOut ⟨#[37, 37, 52, 49]⟩ = ⟨#[]⟩ from by decide +kernel, show rErr ⟨#[37, 37, 52, 49]⟩ = 3 from by decide +kernel, show rAt ⟨#[37, 37, 52, 49]⟩ = 0 from by decide +kernel], h.2⟩

theorem k_n1 (w : World) : Calls Try.prog 17 #[.string ⟨#[37, 54, 49, 37, 50, 70, 43]⟩, .agg #[.int .u64 140874927308800, .int .u64 576460743713488896, .int .u64 0, .int .u64 0]] w fun e w' => e = .returned (.tuple #[.string ⟨#[97, 47, 37, 50, 66]⟩, .agg #[.int .i64 0, .int .i64 0]]) ∧ Below w.heap.size w w' :=
  (pcanonical letS letS_lt _ w (by decide)).mono fun e w' h => ⟨by rw [h.1, show canS letS ⟨#[37, 54, 49, 37, 50, 70, 43]⟩ = ⟨#[97, 47, 37, 50, 66]⟩ from by decide +kernel, show rErr ⟨#[37, 54, 49, 37, 50, 70, 43]⟩ = 0 from by decide +kernel, show rAt ⟨#[37, 54, 49, 37, 50, 70, 43]⟩ = 0 from by decide +kernel], h.2⟩

theorem k_n2 (w : World) : Calls Try.prog 17 #[.string ⟨#[37]⟩, .agg #[.int .u64 140874927308800, .int .u64 576460743713488896, .int .u64 0, .int .u64 0]] w fun e w' => e = .returned (.tuple #[.string ⟨#[]⟩, .agg #[.int .i64 3, .int .i64 0]]) ∧ Below w.heap.size w w' :=
  (pcanonical letS letS_lt _ w (by decide)).mono fun e w' h => ⟨by rw [h.1, show canS letS ⟨#[37]⟩ = ⟨#[]⟩ from by decide +kernel, show rErr ⟨#[37]⟩ = 3 from by decide +kernel, show rAt ⟨#[37]⟩ = 0 from by decide +kernel], h.2⟩

theorem k_x1 (w : World) : Calls Try.prog 19 #[.string ⟨#[97, 37, 50, 48, 37, 52, 49]⟩] w fun e w' => e = .returned (.tuple #[.int .i64 2, .agg #[.int .i64 0, .int .i64 0]]) ∧ Below w.heap.size w w' :=
  (pescapes _ w (by decide)).mono fun e w' h => ⟨by rw [h.1, show rEsc ⟨#[97, 37, 50, 48, 37, 52, 49]⟩ = 2 from by decide +kernel, show rErr ⟨#[97, 37, 50, 48, 37, 52, 49]⟩ = 0 from by decide +kernel, show rAt ⟨#[97, 37, 50, 48, 37, 52, 49]⟩ = 0 from by decide +kernel], h.2⟩

theorem k_c2 (w : World) : Calls Try.prog 11 #[.string ⟨#[97, 37, 50, 48, 98]⟩, .int .i64 3] w fun e w' => e = .returned (.tuple #[.string ⟨#[97]⟩, .int .i64 0]) ∧ Below w.heap.size w w' :=
  (pcut _ 3 w (by decide)).mono fun e w' h => ⟨by rw [h.1, show cutS ⟨#[97, 37, 50, 48, 98]⟩ 3 = ⟨#[97]⟩ from by decide +kernel, show cutE ⟨#[97, 37, 50, 48, 98]⟩ 3 = 0 from by decide +kernel], h.2⟩

theorem k_c3 (w : World) : Calls Try.prog 11 #[.string ⟨#[97, 37, 50, 48, 98]⟩, .int .i64 (-1)] w fun e w' => e = .returned (.tuple #[.string ⟨#[]⟩, .int .i64 2]) ∧ Below w.heap.size w w' :=
  (pcut _ (-1) w (by decide)).mono fun e w' h => ⟨by rw [h.1, show cutS ⟨#[97, 37, 50, 48, 98]⟩ (-1) = ⟨#[]⟩ from by decide +kernel, show cutE ⟨#[97, 37, 50, 48, 98]⟩ (-1) = 2 from by decide +kernel], h.2⟩

theorem k_c4 (w : World) : Calls Try.prog 11 #[.string ⟨#[97, 37]⟩, .int .i64 9] w fun e w' => e = .returned (.tuple #[.string ⟨#[]⟩, .int .i64 3]) ∧ Below w.heap.size w w' :=
  (pcut _ 9 w (by decide)).mono fun e w' h => ⟨by rw [h.1, show cutS ⟨#[97, 37]⟩ 9 = ⟨#[]⟩ from by decide +kernel, show cutE ⟨#[97, 37]⟩ 9 = 3 from by decide +kernel], h.2⟩

theorem k_o2 (w : World) : Calls Try.prog 13 #[.string ⟨#[97, 37, 50, 48, 98]⟩, .int .i64 0] w fun e w' => e = .returned (.tuple #[.int .i64 0, .int .i64 0]) ∧ Below w.heap.size w w' :=
  (poffset _ 0 w (by decide)).mono fun e w' h => ⟨by rw [h.1, show offV ⟨#[97, 37, 50, 48, 98]⟩ 0 = 0 from by decide +kernel, show offE ⟨#[97, 37, 50, 48, 98]⟩ 0 = 0 from by decide +kernel], h.2⟩

theorem k_o3 (w : World) : Calls Try.prog 13 #[.string ⟨#[97, 37, 50, 48, 98]⟩, .int .i64 3] w fun e w' => e = .returned (.tuple #[.int .i64 5, .int .i64 0]) ∧ Below w.heap.size w w' :=
  (poffset _ 3 w (by decide)).mono fun e w' h => ⟨by rw [h.1, show offV ⟨#[97, 37, 50, 48, 98]⟩ 3 = 5 from by decide +kernel, show offE ⟨#[97, 37, 50, 48, 98]⟩ 3 = 0 from by decide +kernel], h.2⟩

theorem k_o4 (w : World) : Calls Try.prog 13 #[.string ⟨#[97, 37, 50, 48, 98]⟩, .int .i64 4] w fun e w' => e = .returned (.tuple #[.int .i64 0, .int .i64 2]) ∧ Below w.heap.size w w' :=
  (poffset _ 4 w (by decide)).mono fun e w' h => ⟨by rw [h.1, show offV ⟨#[97, 37, 50, 48, 98]⟩ 4 = 0 from by decide +kernel, show offE ⟨#[97, 37, 50, 48, 98]⟩ 4 = 2 from by decide +kernel], h.2⟩

theorem k_l1 (w : World) : Calls Try.prog 23 #[.string ⟨#[97, 47, 98, 32, 99, 37]⟩, .agg #[.int .u64 140874927308800, .int .u64 576460743713488896, .int .u64 0, .int .u64 0]] w fun e w' => e = .returned (.int .i64 10) ∧ Below w.heap.size w w' :=
  (plength letS letS_lt _ w (by decide)).mono fun e w' h => ⟨by rw [h.1, show (encS letS ⟨#[97, 47, 98, 32, 99, 37]⟩).size = 10 from by decide +kernel]; rfl, h.2⟩

theorem k_e2 (w : World) : Calls Try.prog 21 #[.string ⟨#[65]⟩, .agg #[.int .u64 140874927308800, .int .u64 576460743713488896, .int .u64 0, .int .u64 0]] w fun e w' => e = .returned (.string ⟨#[37, 52, 49]⟩) ∧ Below w.heap.size w w' :=
  (pencode letS letS_lt _ w (by decide)).mono fun e w' h => ⟨by rw [h.1, show encS letS ⟨#[65]⟩ = ⟨#[37, 52, 49]⟩ from by decide +kernel], h.2⟩

theorem k_i2 (w : World) : Calls Try.prog 25 #[.string ⟨#[97, 37, 50, 70, 98]⟩, .agg #[.int .u64 140874927308800, .int .u64 576460743713488896, .int .u64 0, .int .u64 0]] w fun e w' => e = .returned (.bool false) ∧ Below w.heap.size w w' :=
  (pis letS letS_lt _ w (by decide)).mono fun e w' h => ⟨by rw [h.1, show (decide (okS ⟨#[97, 37, 50, 70, 98]⟩) && decide (canS letS ⟨#[97, 37, 50, 70, 98]⟩ = ⟨#[97, 37, 50, 70, 98]⟩)) = false from by decide +kernel], h.2⟩

theorem k_i3 (w : World) : Calls Try.prog 25 #[.string ⟨#[97, 37, 50, 102]⟩, .agg #[.int .u64 140874927308800, .int .u64 576460743713488896, .int .u64 0, .int .u64 0]] w fun e w' => e = .returned (.bool false) ∧ Below w.heap.size w w' :=
  (pis letS letS_lt _ w (by decide)).mono fun e w' h => ⟨by rw [h.1, show (decide (okS ⟨#[97, 37, 50, 102]⟩) && decide (canS letS ⟨#[97, 37, 50, 102]⟩ = ⟨#[97, 37, 50, 102]⟩)) = false from by decide +kernel], h.2⟩

set_option maxRecDepth 100000 in
set_option maxHeartbeats 4000000 in
theorem known (w : World) : Calls Try.prog 6 #[] w fun e w' => e = .returned (.bool true) ∧ Below w.heap.size w w' := by
  go_enter Try.func6, Try.ntmps6
  have I0 : Below w.heap.size w w := Below.refl _ _
  go_wp2_with (fail)
  refine (k_d2 _).mono ?_
  rintro e W1 ⟨rfl, h1⟩
  have I1c := gr_call I0 h1
  have F1 := Blk.new (W1) 33 #[.int .i64 3, .int .i64 0]
  have I1a1 := gr_alloc I1c (.cells #[.int .i64 3, .int .i64 0] 33)
  clear h1
  go_wp2_with (fail)
  refine (k_d3 _).mono ?_
  rintro e W2 ⟨rfl, h2⟩
  have I2c := gr_call I1a1 h2
  have F1_2 := F1.call h2
  have F2 := Blk.new (W2) 33 #[.int .i64 3, .int .i64 0]
  have F1a2 := F1_2.alloc (.cells #[.int .i64 3, .int .i64 0] 33)
  have I2a2 := gr_alloc I2c (.cells #[.int .i64 3, .int .i64 0] 33)
  clear h2
  go_wp2_with (fail)
  refine (letters _).mono ?_
  rintro e W3 ⟨rfl, h3⟩
  have I3c := gr_call I2a2 h3
  have F1_3 := F1a2.call h3
  have F2_3 := F2.call h3
  clear h3
  go_wp2_with (fail)
  refine (k_n1 _).mono ?_
  rintro e W4 ⟨rfl, h4⟩
  have I4c := gr_call I3c h4
  have F1_4 := F1_3.call h4
  have F2_4 := F2_3.call h4
  have F3 := Blk.new (W4) 33 #[.int .i64 0, .int .i64 0]
  have F1a3 := F1_4.alloc (.cells #[.int .i64 0, .int .i64 0] 33)
  have F2a3 := F2_4.alloc (.cells #[.int .i64 0, .int .i64 0] 33)
  have I4a3 := gr_alloc I4c (.cells #[.int .i64 0, .int .i64 0] 33)
  clear h4
  go_wp2_with (fail)
  refine (letters _).mono ?_
  rintro e W5 ⟨rfl, h5⟩
  have I5c := gr_call I4a3 h5
  have F1_5 := F1a3.call h5
  have F2_5 := F2a3.call h5
  have F3_5 := F3.call h5
  clear h5
  go_wp2_with (fail)
  refine (k_n2 _).mono ?_
  rintro e W6 ⟨rfl, h6⟩
  have I6c := gr_call I5c h6
  have F1_6 := F1_5.call h6
  have F2_6 := F2_5.call h6
  have F3_6 := F3_5.call h6
  have F4 := Blk.new (W6) 33 #[.int .i64 3, .int .i64 0]
  have F1a4 := F1_6.alloc (.cells #[.int .i64 3, .int .i64 0] 33)
  have F2a4 := F2_6.alloc (.cells #[.int .i64 3, .int .i64 0] 33)
  have F3a4 := F3_6.alloc (.cells #[.int .i64 3, .int .i64 0] 33)
  have I6a4 := gr_alloc I6c (.cells #[.int .i64 3, .int .i64 0] 33)
  clear h6
  go_wp2_with (fail)
  refine (k_x1 _).mono ?_
  rintro e W7 ⟨rfl, h7⟩
  have I7c := gr_call I6a4 h7
  have F1_7 := F1a4.call h7
  have F2_7 := F2a4.call h7
  have F3_7 := F3a4.call h7
  have F4_7 := F4.call h7
  have F5 := Blk.new (W7) 33 #[.int .i64 0, .int .i64 0]
  have F1a5 := F1_7.alloc (.cells #[.int .i64 0, .int .i64 0] 33)
  have F2a5 := F2_7.alloc (.cells #[.int .i64 0, .int .i64 0] 33)
  have F3a5 := F3_7.alloc (.cells #[.int .i64 0, .int .i64 0] 33)
  have F4a5 := F4_7.alloc (.cells #[.int .i64 0, .int .i64 0] 33)
  have I7a5 := gr_alloc I7c (.cells #[.int .i64 0, .int .i64 0] 33)
  clear h7
  go_wp2_with (fail)
  refine (k_c2 _).mono ?_
  rintro e W8 ⟨rfl, h8⟩
  have I8c := gr_call I7a5 h8
  have F1_8 := F1a5.call h8
  have F2_8 := F2a5.call h8
  have F3_8 := F3a5.call h8
  have F4_8 := F4a5.call h8
  have F5_8 := F5.call h8
  clear h8
  go_wp2_with (fail)
  refine (k_c3 _).mono ?_
  rintro e W9 ⟨rfl, h9⟩
  have I9c := gr_call I8c h9
  have F1_9 := F1_8.call h9
  have F2_9 := F2_8.call h9
  have F3_9 := F3_8.call h9
  have F4_9 := F4_8.call h9
  have F5_9 := F5_8.call h9
  clear h9
  go_wp2_with (fail)
  refine (k_c4 _).mono ?_
  rintro e W10 ⟨rfl, h10⟩
  have I10c := gr_call I9c h10
  have F1_10 := F1_9.call h10
  have F2_10 := F2_9.call h10
  have F3_10 := F3_9.call h10
  have F4_10 := F4_9.call h10
  have F5_10 := F5_9.call h10
  clear h10
  go_wp2_with (fail)
  refine (k_o2 _).mono ?_
  rintro e W11 ⟨rfl, h11⟩
  have I11c := gr_call I10c h11
  have F1_11 := F1_10.call h11
  have F2_11 := F2_10.call h11
  have F3_11 := F3_10.call h11
  have F4_11 := F4_10.call h11
  have F5_11 := F5_10.call h11
  clear h11
  go_wp2_with (fail)
  refine (k_o3 _).mono ?_
  rintro e W12 ⟨rfl, h12⟩
  have I12c := gr_call I11c h12
  have F1_12 := F1_11.call h12
  have F2_12 := F2_11.call h12
  have F3_12 := F3_11.call h12
  have F4_12 := F4_11.call h12
  have F5_12 := F5_11.call h12
  clear h12
  go_wp2_with (fail)
  refine (k_o4 _).mono ?_
  rintro e W13 ⟨rfl, h13⟩
  have I13c := gr_call I12c h13
  have F1_13 := F1_12.call h13
  have F2_13 := F2_12.call h13
  have F3_13 := F3_12.call h13
  have F4_13 := F4_12.call h13
  have F5_13 := F5_12.call h13
  clear h13
  have F1c0 := F1_13.cell' (i := 0) (v := .int .i64 3) rfl
  have F1c1 := F1_13.cell' (i := 1) (v := .int .i64 0) rfl
  have F2c0 := F2_13.cell' (i := 0) (v := .int .i64 3) rfl
  have F2c1 := F2_13.cell' (i := 1) (v := .int .i64 0) rfl
  have F3c0 := F3_13.cell' (i := 0) (v := .int .i64 0) rfl
  have F3c1 := F3_13.cell' (i := 1) (v := .int .i64 0) rfl
  have F4c0 := F4_13.cell' (i := 0) (v := .int .i64 3) rfl
  have F4c1 := F4_13.cell' (i := 1) (v := .int .i64 0) rfl
  have F5c0 := F5_13.cell' (i := 0) (v := .int .i64 0) rfl
  have F5c1 := F5_13.cell' (i := 1) (v := .int .i64 0) rfl
  go_wp2_with (fail)
  refine (letters _).mono ?_
  rintro e W14 ⟨rfl, h14⟩
  have I14c := gr_call I13c h14
  have F1_14 := F1_13.call h14
  have F2_14 := F2_13.call h14
  have F3_14 := F3_13.call h14
  have F4_14 := F4_13.call h14
  have F5_14 := F5_13.call h14
  clear h14
  go_wp2_with (fail)
  refine (k_l1 _).mono ?_
  rintro e W15 ⟨rfl, h15⟩
  have I15c := gr_call I14c h15
  have F1_15 := F1_14.call h15
  have F2_15 := F2_14.call h15
  have F3_15 := F3_14.call h15
  have F4_15 := F4_14.call h15
  have F5_15 := F5_14.call h15
  clear h15
  go_wp2_with (fail)
  refine (letters _).mono ?_
  rintro e W16 ⟨rfl, h16⟩
  have I16c := gr_call I15c h16
  have F1_16 := F1_15.call h16
  have F2_16 := F2_15.call h16
  have F3_16 := F3_15.call h16
  have F4_16 := F4_15.call h16
  have F5_16 := F5_15.call h16
  clear h16
  go_wp2_with (fail)
  refine (k_e2 _).mono ?_
  rintro e W17 ⟨rfl, h17⟩
  have I17c := gr_call I16c h17
  have F1_17 := F1_16.call h17
  have F2_17 := F2_16.call h17
  have F3_17 := F3_16.call h17
  have F4_17 := F4_16.call h17
  have F5_17 := F5_16.call h17
  clear h17
  go_wp2_with (fail)
  refine (letters _).mono ?_
  rintro e W18 ⟨rfl, h18⟩
  have I18c := gr_call I17c h18
  have F1_18 := F1_17.call h18
  have F2_18 := F2_17.call h18
  have F3_18 := F3_17.call h18
  have F4_18 := F4_17.call h18
  have F5_18 := F5_17.call h18
  clear h18
  go_wp2_with (fail)
  refine (k_i2 _).mono ?_
  rintro e W19 ⟨rfl, h19⟩
  have I19c := gr_call I18c h19
  have F1_19 := F1_18.call h19
  have F2_19 := F2_18.call h19
  have F3_19 := F3_18.call h19
  have F4_19 := F4_18.call h19
  have F5_19 := F5_18.call h19
  clear h19
  go_wp2_with (fail)
  refine (letters _).mono ?_
  rintro e W20 ⟨rfl, h20⟩
  have I20c := gr_call I19c h20
  have F1_20 := F1_19.call h20
  have F2_20 := F2_19.call h20
  have F3_20 := F3_19.call h20
  have F4_20 := F4_19.call h20
  have F5_20 := F5_19.call h20
  clear h20
  go_wp2_with (fail)
  refine (k_i3 _).mono ?_
  rintro e W21 ⟨rfl, h21⟩
  have I21c := gr_call I20c h21
  have F1_21 := F1_20.call h21
  have F2_21 := F2_20.call h21
  have F3_21 := F3_20.call h21
  have F4_21 := F4_20.call h21
  have F5_21 := F5_20.call h21
  clear h21
  go_wp2_with (fail)
  refine (awake _).mono ?_
  rintro e W22 ⟨rfl, h22⟩
  have I22c := gr_call I21c h22
  have F1_22 := F1_21.call h22
  have F2_22 := F2_21.call h22
  have F3_22 := F3_21.call h22
  have F4_22 := F4_21.call h22
  have F5_22 := F5_21.call h22
  clear h22
  go_wp2_with (fail)
  go_ret
  exact ⟨rfl, I22c⟩
end Go.Proofs.Ytgbnppdcolednaa
