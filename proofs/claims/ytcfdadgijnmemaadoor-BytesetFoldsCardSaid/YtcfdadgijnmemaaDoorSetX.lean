/-
  The chapter's examples of byteset: awake returns true; condition: the library's table lies as it is laid.
-/
import Derived.Test.YtcfdadgijnmemaaDoorSetW
namespace Go.Proofs.YtcfdadgijnmemaaDoor
open Go.RowKit
set_option linter.unusedVariables false
set_option linter.unusedSimpArgs false

def pA : Nat → Bool := ofS ⟨#[97, 0, 255]⟩
def pR : Nat → Bool := rngV (fun i => if i = 0 then 97 else 48) (fun i => if i = 0 then 122 else 57) 2
def pZ : Nat → Bool := ofS ⟨#[97, 90, 49]⟩
def pZ2 : Nat → Bool := ofS ⟨#[49, 65, 90, 97, 122]⟩
def pX : Nat → Bool := ofS ⟨#[97, 98, 99, 120]⟩
theorem o_A (w : World) : Calls Tryd.prog 37 #[.string ⟨#[97, 0, 255]⟩] w fun e w' => e = .returned (Value.agg #[.int .u64 (setW pA 0 : Int), .int .u64 (setW pA 1 : Int), .int .u64 (setW pA 2 : Int), .int .u64 (setW pA 3 : Int)]) ∧ Below w.heap.size w w' := lof ⟨#[97, 0, 255]⟩ (by decide) w
theorem o_Z (w : World) : Calls Tryd.prog 37 #[.string ⟨#[97, 90, 49]⟩] w fun e w' => e = .returned (Value.agg #[.int .u64 (setW pZ 0 : Int), .int .u64 (setW pZ 1 : Int), .int .u64 (setW pZ 2 : Int), .int .u64 (setW pZ 3 : Int)]) ∧ Below w.heap.size w w' := lof ⟨#[97, 90, 49]⟩ (by decide) w
theorem o_Z2 (w : World) : Calls Tryd.prog 37 #[.string ⟨#[49, 65, 90, 97, 122]⟩] w fun e w' => e = .returned (Value.agg #[.int .u64 (setW pZ2 0 : Int), .int .u64 (setW pZ2 1 : Int), .int .u64 (setW pZ2 2 : Int), .int .u64 (setW pZ2 3 : Int)]) ∧ Below w.heap.size w w' := lof ⟨#[49, 65, 90, 97, 122]⟩ (by decide) w
theorem o_X (w : World) : Calls Tryd.prog 37 #[.string ⟨#[97, 98, 99, 120]⟩] w fun e w' => e = .returned (Value.agg #[.int .u64 (setW pX 0 : Int), .int .u64 (setW pX 1 : Int), .int .u64 (setW pX 2 : Int), .int .u64 (setW pX 3 : Int)]) ∧ Below w.heap.size w w' := lof ⟨#[97, 98, 99, 120]⟩ (by decide) w
theorem k_rng (n cap : Nat) (W : World) (hn : Blk W n 35 #[.int .u8 97, .int .u8 122, .int .u8 48, .int .u8 57]) :
    Calls Tryd.prog 11 #[.slice (some ⟨n, 0, none⟩) 2 cap] W fun e w' => e = .returned (.tuple #[Value.agg #[.int .u64 (setW pR 0 : Int), .int .u64 (setW pR 1 : Int), .int .u64 (setW pR 2 : Int), .int .u64 (setW pR 3 : Int)], .int .i64 0]) ∧ Below W.heap.size W w' := by
  refine (branges _ 2 cap (fun i => if i = 0 then 97 else 48) (fun i => if i = 0 then 122 else 57) (fun i => by split <;> decide) (fun i => by split <;> decide) (by decide) _ (fun _ => ⟨_, _, rfl, hn.lt, fun i j hi hj => ?_⟩)).mono fun e w' h => ⟨by rw [h.1]; rfl, h.2⟩
  have h := hn.cell (i * 2 + j)
  rw [Nat.zero_add, h]
  match i, j, hi, hj with
  | 0, 0, _, _ => rfl
  | 0, 1, _, _ => rfl
  | 1, 0, _, _ => rfl
  | 1, 1, _, _ => rfl
theorem t_R (w : World) : Calls Tryd.prog 21 #[Value.agg #[.int .u64 (setW pR 0 : Int), .int .u64 (setW pR 1 : Int), .int .u64 (setW pR 2 : Int), .int .u64 (setW pR 3 : Int)]] w fun e w' => e = .returned (.string ⟨#[48, 45, 57, 97, 45, 122]⟩) ∧ Below w.heap.size w w' :=
  (btext pR w).mono fun e w' h => ⟨by rw [h.1, show txtP pR 0 = ⟨#[48, 45, 57, 97, 45, 122]⟩ from by decide +kernel], h.2⟩
theorem c_A (w : World) : Calls Tryd.prog 31 #[Value.agg #[.int .u64 (setW pA 0 : Int), .int .u64 (setW pA 1 : Int), .int .u64 (setW pA 2 : Int), .int .u64 (setW pA 3 : Int)]] w fun e w' => e = .returned (.int .i64 3) ∧ Below w.heap.size w w' :=
  (bcount pA w).mono fun e w' h => ⟨by rw [h.1, show cntP pA 256 = 3 from by decide +kernel]; rfl, h.2⟩
theorem p_X (w : World) : Calls Tryd.prog 39 #[.string ⟨#[97, 45, 99, 120]⟩, Value.agg #[.int .u64 (setW pX 0 : Int), .int .u64 (setW pX 1 : Int), .int .u64 (setW pX 2 : Int), .int .u64 (setW pX 3 : Int)]] w fun e w' => e = .returned (.bool true) ∧ Below w.heap.size w w' :=
  (lparses ⟨#[97, 45, 99, 120]⟩ pX w).mono fun e w' h => ⟨by rw [h.1, show parsesB ⟨#[97, 45, 99, 120]⟩ pX = true from by decide +kernel], h.2⟩
theorem eq_A : ((setW pA 0 : Int) == 1) = true ∧ ((setW pA 1 : Int) == 8589934592) = true ∧ ((setW pA 2 : Int) == 0) = true ∧ ((setW pA 3 : Int) == 9223372036854775808) = true := by decide +kernel
theorem eq_Z : eqP (foldP pZ) pZ2 = true := by decide +kernel
set_option maxRecDepth 100000 in
set_option maxHeartbeats 4000000 in
theorem awake (w : World) (hT : TabOk w) (hw : 0 < w.heap.size) : Calls Tryd.prog 10 #[] w fun e w' => e = .returned (.bool true) ∧ Below w.heap.size w w' := by
  go_enter Tryd.func10, Tryd.ntmps10
  have I0 : Below w.heap.size w w := Below.refl _ _
  have hq := eqInts
  obtain ⟨qa, qb, qc, qd⟩ := eq_A
  have hz := eqSet (foldP pZ) pZ2
  rw [eq_Z] at hz
  go_wp2_with (fail)
  refine (o_A _).mono ?_
  rintro e W1 ⟨rfl, h1⟩
  have I1c := gr_call I0 h1
  have F1 := Blk.new (W1) 28 #[Value.int .u64 (setW pA 0 : Int), .int .u64 (setW pA 1 : Int), .int .u64 (setW pA 2 : Int), .int .u64 (setW pA 3 : Int)]
  have I1a1 := gr_alloc I1c (.cells #[Value.int .u64 (setW pA 0 : Int), .int .u64 (setW pA 1 : Int), .int .u64 (setW pA 2 : Int), .int .u64 (setW pA 3 : Int)] 28)
  clear h1
  have F1a2 := F1.alloc (.cells #[.int .u8 97, .int .u8 122, .int .u8 48, .int .u8 57] 35)
  have I1a2 := gr_alloc I1a1 (.cells #[.int .u8 97, .int .u8 122, .int .u8 48, .int .u8 57] 35)
  go_wp2_with (fail)
  refine (k_rng _ _ _ (blk_at (by simp))).mono ?_
  rintro e W2 ⟨rfl, h2⟩
  have I2c := gr_call I1a2 h2
  have F1_2 := F1a2.call h2
  have F3 := Blk.new (W2) 28 #[Value.int .u64 (setW pR 0 : Int), .int .u64 (setW pR 1 : Int), .int .u64 (setW pR 2 : Int), .int .u64 (setW pR 3 : Int)]
  have F1a3 := F1_2.alloc (.cells #[Value.int .u64 (setW pR 0 : Int), .int .u64 (setW pR 1 : Int), .int .u64 (setW pR 2 : Int), .int .u64 (setW pR 3 : Int)] 28)
  have I2a3 := gr_alloc I2c (.cells #[Value.int .u64 (setW pR 0 : Int), .int .u64 (setW pR 1 : Int), .int .u64 (setW pR 2 : Int), .int .u64 (setW pR 3 : Int)] 28)
  clear h2
  have F1c0 := F1a3.cell' (i := 0) (v := .int .u64 (setW pA 0 : Int)) rfl
  have F1c1 := F1a3.cell' (i := 1) (v := .int .u64 (setW pA 1 : Int)) rfl
  have F1c2 := F1a3.cell' (i := 2) (v := .int .u64 (setW pA 2 : Int)) rfl
  have F1c3 := F1a3.cell' (i := 3) (v := .int .u64 (setW pA 3 : Int)) rfl
  have zF1 := F1a3.lt
  have zF2 := F3.lt
  go_wp2_with (fail)
  refine (c_A _).mono ?_
  rintro e W3 ⟨rfl, h3⟩
  have I3c := gr_call I2a3 h3
  have F1_3 := F1a3.call h3
  have F3_3 := F3.call h3
  clear h3
  clear F1c0 F1c1 F1c2 F1c3
  have F3c0 := F3_3.cell' (i := 0) (v := .int .u64 (setW pR 0 : Int)) rfl
  have F3c1 := F3_3.cell' (i := 1) (v := .int .u64 (setW pR 1 : Int)) rfl
  have F3c2 := F3_3.cell' (i := 2) (v := .int .u64 (setW pR 2 : Int)) rfl
  have F3c3 := F3_3.cell' (i := 3) (v := .int .u64 (setW pR 3 : Int)) rfl
  go_wp2_with (fail)
  refine (t_R _).mono ?_
  rintro e W4 ⟨rfl, h4⟩
  have I4c := gr_call I3c h4
  have F1_4 := F1_3.call h4
  have F3_4 := F3_3.call h4
  clear h4
  go_wp2_with (fail)
  refine (o_Z _).mono ?_
  rintro e W5 ⟨rfl, h5⟩
  have I5c := gr_call I4c h5
  have F1_5 := F1_4.call h5
  have F3_5 := F3_4.call h5
  clear h5
  go_wp2_with (fail)
  refine (bfold pZ _ (hT.below I5c hw) (Nat.lt_of_lt_of_le hw I5c.size)).mono ?_
  rintro e W6 ⟨rfl, h6⟩
  have I6c := gr_call I5c h6
  have F1_6 := F1_5.call h6
  have F3_6 := F3_5.call h6
  clear h6
  go_wp2_with (fail)
  refine (o_Z2 _).mono ?_
  rintro e W7 ⟨rfl, h7⟩
  have I7c := gr_call I6c h7
  have F1_7 := F1_6.call h7
  have F3_7 := F3_6.call h7
  clear h7
  go_wp2_with (fail)
  refine (o_X _).mono ?_
  rintro e W8 ⟨rfl, h8⟩
  have I8c := gr_call I7c h8
  have F1_8 := F1_7.call h8
  have F3_8 := F3_7.call h8
  clear h8
  go_wp2_with (fail)
  refine (p_X _).mono ?_
  rintro e W9 ⟨rfl, h9⟩
  have I9c := gr_call I8c h9
  have F1_9 := F1_8.call h9
  have F3_9 := F3_8.call h9
  clear h9
  go_wp2_with (fail)
  go_ret
  exact ⟨rfl, I9c⟩

end Go.Proofs.YtcfdadgijnmemaaDoor
