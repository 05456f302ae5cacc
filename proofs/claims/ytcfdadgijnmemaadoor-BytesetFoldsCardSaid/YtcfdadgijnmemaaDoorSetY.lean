/-
  The chapter's examples of byteset: BytesetKnown returns true; condition: the library's table lies as it is laid.
-/
import Derived.Test.YtcfdadgijnmemaaDoorSetX
namespace Go.Proofs.YtcfdadgijnmemaaDoor
open Go.RowKit
set_option linter.unusedVariables false
set_option linter.unusedSimpArgs false

def pk0 : Nat → Bool := ofS ⟨#[97, 0, 255]⟩
def pk1 : Nat → Bool := ofS ⟨#[97, 98]⟩
def pk2 : Nat → Bool := ofS ⟨#[97, 98, 99]⟩
def pk3 : Nat → Bool := ofS ⟨#[45]⟩
def pk4 : Nat → Bool := ofS ⟨#[128, 32]⟩
def pB0 : Nat → Bool := insP noP 0
def pN0 : Nat → Bool := notP pB0
def pk5 : Nat → Bool := ofS ⟨#[65]⟩
def pB59 : Nat → Bool := ofP (fun i => if i = 0 then 5 else 9) 2
def pB5 : Nat → Bool := insP noP 5
def pU : Nat → Bool := orL (fun _ => noP) 0
def pC : Nat → Bool := andL (fun _ => noP) 0
def pk6 : Nat → Bool := ofS ⟨#[97]⟩
theorem ok0 (w : World) : Calls Tryd.prog 37 #[.string ⟨#[97, 0, 255]⟩] w fun e w' => e = .returned (Value.agg #[.int .u64 (setW pk0 0 : Int), .int .u64 (setW pk0 1 : Int), .int .u64 (setW pk0 2 : Int), .int .u64 (setW pk0 3 : Int)]) ∧ Below w.heap.size w w' := lof ⟨#[97, 0, 255]⟩ (by decide) w
theorem str_A : strP pk0 = ⟨#[0, 97, 255]⟩ := by decide +kernel
theorem ok1 (w : World) : Calls Tryd.prog 37 #[.string ⟨#[97, 98]⟩] w fun e w' => e = .returned (Value.agg #[.int .u64 (setW pk1 0 : Int), .int .u64 (setW pk1 1 : Int), .int .u64 (setW pk1 2 : Int), .int .u64 (setW pk1 3 : Int)]) ∧ Below w.heap.size w w' := lof ⟨#[97, 98]⟩ (by decide) w
theorem tk0 (w : World) : Calls Tryd.prog 21 #[Value.agg #[.int .u64 (setW pk1 0 : Int), .int .u64 (setW pk1 1 : Int), .int .u64 (setW pk1 2 : Int), .int .u64 (setW pk1 3 : Int)]] w fun e w' => e = .returned (.string ⟨#[97, 98]⟩) ∧ Below w.heap.size w w' :=
  (btext pk1 w).mono fun e w' h => ⟨by rw [h.1, show txtP pk1 0 = ⟨#[97, 98]⟩ from by decide +kernel], h.2⟩
theorem ok2 (w : World) : Calls Tryd.prog 37 #[.string ⟨#[97, 98, 99]⟩] w fun e w' => e = .returned (Value.agg #[.int .u64 (setW pk2 0 : Int), .int .u64 (setW pk2 1 : Int), .int .u64 (setW pk2 2 : Int), .int .u64 (setW pk2 3 : Int)]) ∧ Below w.heap.size w w' := lof ⟨#[97, 98, 99]⟩ (by decide) w
theorem tk1 (w : World) : Calls Tryd.prog 21 #[Value.agg #[.int .u64 (setW pk2 0 : Int), .int .u64 (setW pk2 1 : Int), .int .u64 (setW pk2 2 : Int), .int .u64 (setW pk2 3 : Int)]] w fun e w' => e = .returned (.string ⟨#[97, 45, 99]⟩) ∧ Below w.heap.size w w' :=
  (btext pk2 w).mono fun e w' h => ⟨by rw [h.1, show txtP pk2 0 = ⟨#[97, 45, 99]⟩ from by decide +kernel], h.2⟩
theorem ok3 (w : World) : Calls Tryd.prog 37 #[.string ⟨#[45]⟩] w fun e w' => e = .returned (Value.agg #[.int .u64 (setW pk3 0 : Int), .int .u64 (setW pk3 1 : Int), .int .u64 (setW pk3 2 : Int), .int .u64 (setW pk3 3 : Int)]) ∧ Below w.heap.size w w' := lof ⟨#[45]⟩ (by decide) w
theorem tk2 (w : World) : Calls Tryd.prog 21 #[Value.agg #[.int .u64 (setW pk3 0 : Int), .int .u64 (setW pk3 1 : Int), .int .u64 (setW pk3 2 : Int), .int .u64 (setW pk3 3 : Int)]] w fun e w' => e = .returned (.string ⟨#[92, 120, 50, 100]⟩) ∧ Below w.heap.size w w' :=
  (btext pk3 w).mono fun e w' h => ⟨by rw [h.1, show txtP pk3 0 = ⟨#[92, 120, 50, 100]⟩ from by decide +kernel], h.2⟩
theorem ok4 (w : World) : Calls Tryd.prog 37 #[.string ⟨#[128, 32]⟩] w fun e w' => e = .returned (Value.agg #[.int .u64 (setW pk4 0 : Int), .int .u64 (setW pk4 1 : Int), .int .u64 (setW pk4 2 : Int), .int .u64 (setW pk4 3 : Int)]) ∧ Below w.heap.size w w' := lof ⟨#[128, 32]⟩ (by decide) w
theorem tk3 (w : World) : Calls Tryd.prog 21 #[Value.agg #[.int .u64 (setW pk4 0 : Int), .int .u64 (setW pk4 1 : Int), .int .u64 (setW pk4 2 : Int), .int .u64 (setW pk4 3 : Int)]] w fun e w' => e = .returned (.string ⟨#[92, 120, 50, 48, 92, 120, 56, 48]⟩) ∧ Below w.heap.size w w' :=
  (btext pk4 w).mono fun e w' h => ⟨by rw [h.1, show txtP pk4 0 = ⟨#[92, 120, 50, 48, 92, 120, 56, 48]⟩ from by decide +kernel], h.2⟩
theorem tkN (w : World) : Calls Tryd.prog 21 #[Value.agg #[.int .u64 (setW pN0 0 : Int), .int .u64 (setW pN0 1 : Int), .int .u64 (setW pN0 2 : Int), .int .u64 (setW pN0 3 : Int)]] w fun e w' => e = .returned (.string ⟨#[92, 120, 48, 49, 45, 92, 120, 102, 102]⟩) ∧ Below w.heap.size w w' :=
  (btext pN0 w).mono fun e w' h => ⟨by rw [h.1, show txtP pN0 0 = ⟨#[92, 120, 48, 49, 45, 92, 120, 102, 102]⟩ from by decide +kernel], h.2⟩
theorem fk0 (w : World) : Calls Tryd.prog 38 #[.string ⟨#[99, 45, 97]⟩] w fun e w' => e = .returned (.int .i64 8) ∧ Below w.heap.size w w' :=
  (lfails ⟨#[99, 45, 97]⟩ w).mono fun e w' h => ⟨by rw [h.1, show (parseP ⟨#[99, 45, 97]⟩).2 = 8 from by decide +kernel], h.2⟩
theorem fk1 (w : World) : Calls Tryd.prog 38 #[.string ⟨#[97, 45]⟩] w fun e w' => e = .returned (.int .i64 3) ∧ Below w.heap.size w w' :=
  (lfails ⟨#[97, 45]⟩ w).mono fun e w' h => ⟨by rw [h.1, show (parseP ⟨#[97, 45]⟩).2 = 3 from by decide +kernel], h.2⟩
theorem fk2 (w : World) : Calls Tryd.prog 38 #[.string ⟨#[92, 120, 52]⟩] w fun e w' => e = .returned (.int .i64 3) ∧ Below w.heap.size w w' :=
  (lfails ⟨#[92, 120, 52]⟩ w).mono fun e w' h => ⟨by rw [h.1, show (parseP ⟨#[92, 120, 52]⟩).2 = 3 from by decide +kernel], h.2⟩
theorem fk3 (w : World) : Calls Tryd.prog 38 #[.string ⟨#[45]⟩] w fun e w' => e = .returned (.int .i64 3) ∧ Below w.heap.size w w' :=
  (lfails ⟨#[45]⟩ w).mono fun e w' h => ⟨by rw [h.1, show (parseP ⟨#[45]⟩).2 = 3 from by decide +kernel], h.2⟩
theorem ok5 (w : World) : Calls Tryd.prog 37 #[.string ⟨#[65]⟩] w fun e w' => e = .returned (Value.agg #[.int .u64 (setW pk5 0 : Int), .int .u64 (setW pk5 1 : Int), .int .u64 (setW pk5 2 : Int), .int .u64 (setW pk5 3 : Int)]) ∧ Below w.heap.size w w' := lof ⟨#[65]⟩ (by decide) w
theorem pkA (w : World) : Calls Tryd.prog 39 #[.string ⟨#[92, 120, 52, 49]⟩, Value.agg #[.int .u64 (setW pk5 0 : Int), .int .u64 (setW pk5 1 : Int), .int .u64 (setW pk5 2 : Int), .int .u64 (setW pk5 3 : Int)]] w fun e w' => e = .returned (.bool true) ∧ Below w.heap.size w w' :=
  (lparses ⟨#[92, 120, 52, 49]⟩ pk5 w).mono fun e w' h => ⟨by rw [h.1, show parsesB ⟨#[92, 120, 52, 49]⟩ pk5 = true from by decide +kernel], h.2⟩
theorem nk0 (w : World) (hT : TabOk w) (hw : 0 < w.heap.size) : Calls Tryd.prog 33 #[Value.agg #[.int .u64 (setW pB59 0 : Int), .int .u64 (setW pB59 1 : Int), .int .u64 (setW pB59 2 : Int), .int .u64 (setW pB59 3 : Int)], .int .i64 (6)] w fun e w' => e = .returned (.tuple #[.int .i64 9, .int .i64 0]) ∧ Below w.heap.size w w' :=
  (bnext pB59 (6) w hT hw).mono fun e w' h => ⟨by rw [h.1, show nxtV (nxtP pB59 (6)) = 9 from by decide +kernel, show nxtE (nxtP pB59 (6)) = 0 from by decide +kernel], h.2⟩
theorem nk1 (w : World) (hT : TabOk w) (hw : 0 < w.heap.size) : Calls Tryd.prog 33 #[Value.agg #[.int .u64 (setW pB59 0 : Int), .int .u64 (setW pB59 1 : Int), .int .u64 (setW pB59 2 : Int), .int .u64 (setW pB59 3 : Int)], .int .i64 (10)] w fun e w' => e = .returned (.tuple #[.int .i64 0, .int .i64 6]) ∧ Below w.heap.size w w' :=
  (bnext pB59 (10) w hT hw).mono fun e w' h => ⟨by rw [h.1, show nxtV (nxtP pB59 (10)) = 0 from by decide +kernel, show nxtE (nxtP pB59 (10)) = 6 from by decide +kernel], h.2⟩
theorem nk2 (w : World) (hT : TabOk w) (hw : 0 < w.heap.size) : Calls Tryd.prog 33 #[Value.agg #[.int .u64 (setW pB5 0 : Int), .int .u64 (setW pB5 1 : Int), .int .u64 (setW pB5 2 : Int), .int .u64 (setW pB5 3 : Int)], .int .i64 (-9)] w fun e w' => e = .returned (.tuple #[.int .i64 5, .int .i64 0]) ∧ Below w.heap.size w w' :=
  (bnext pB5 (-9) w hT hw).mono fun e w' h => ⟨by rw [h.1, show nxtV (nxtP pB5 (-9)) = 5 from by decide +kernel, show nxtE (nxtP pB5 (-9)) = 0 from by decide +kernel], h.2⟩
theorem ckC (w : World) : Calls Tryd.prog 31 #[Value.agg #[.int .u64 (setW pC 0 : Int), .int .u64 (setW pC 1 : Int), .int .u64 (setW pC 2 : Int), .int .u64 (setW pC 3 : Int)]] w fun e w' => e = .returned (.int .i64 256) ∧ Below w.heap.size w w' :=
  (bcount pC w).mono fun e w' h => ⟨by rw [h.1, show cntP pC 256 = 256 from by decide +kernel]; rfl, h.2⟩
theorem ok6 (w : World) : Calls Tryd.prog 37 #[.string ⟨#[97]⟩] w fun e w' => e = .returned (Value.agg #[.int .u64 (setW pk6 0 : Int), .int .u64 (setW pk6 1 : Int), .int .u64 (setW pk6 2 : Int), .int .u64 (setW pk6 3 : Int)]) ∧ Below w.heap.size w w' := lof ⟨#[97]⟩ (by decide) w
theorem ak0 (w : World) : Calls Tryd.prog 23 #[Value.agg #[.int .u64 (setW pk6 0 : Int), .int .u64 (setW pk6 1 : Int), .int .u64 (setW pk6 2 : Int), .int .u64 (setW pk6 3 : Int)], .string ⟨#[97, 97]⟩] w fun e w' => e = .returned (.bool true) ∧ Below w.heap.size w w' :=
  (ball pk6 ⟨#[97, 97]⟩ (by decide) w).mono fun e w' h => ⟨by rw [h.1, show allS pk6 ⟨#[97, 97]⟩ = true from by decide +kernel], h.2⟩
theorem ak1 (w : World) : Calls Tryd.prog 23 #[Value.agg #[.int .u64 (setW pk6 0 : Int), .int .u64 (setW pk6 1 : Int), .int .u64 (setW pk6 2 : Int), .int .u64 (setW pk6 3 : Int)], .string ⟨#[97, 98]⟩] w fun e w' => e = .returned (.bool false) ∧ Below w.heap.size w w' :=
  (ball pk6 ⟨#[97, 98]⟩ (by decide) w).mono fun e w' h => ⟨by rw [h.1, show allS pk6 ⟨#[97, 98]⟩ = false from by decide +kernel], h.2⟩
theorem eq_U : ((setW pU 0 : Int) == 0) = true ∧ ((setW pU 1 : Int) == 0) = true ∧ ((setW pU 2 : Int) == 0) = true ∧ ((setW pU 3 : Int) == 0) = true := by decide +kernel
theorem bof59 (n cap : Nat) (W : World) (hn : Blk W n 5 #[.int .u8 5, .int .u8 9]) : Calls Tryd.prog 13 #[.slice (some ⟨n, 0, none⟩) 2 cap] W fun e w' => e = .returned (Value.agg #[.int .u64 (setW pB59 0 : Int), .int .u64 (setW pB59 1 : Int), .int .u64 (setW pB59 2 : Int), .int .u64 (setW pB59 3 : Int)]) ∧ Below W.heap.size W w' := by
  refine bof _ 2 cap (fun i => if i = 0 then 5 else 9) (fun i => by split <;> decide) (by decide) _ (fun _ => ⟨_, _, rfl, hn.lt, fun i j hi hj => ?_⟩)
  obtain rfl : j = 0 := by omega
  have h := hn.cell i
  rw [Nat.zero_add, Nat.mul_one, Nat.add_zero, h]
  match i, hi with
  | 0, _ => rfl
  | 1, _ => rfl
theorem bof5 (n cap : Nat) (W : World) (hn : Blk W n 5 #[.int .u8 5]) : Calls Tryd.prog 13 #[.slice (some ⟨n, 0, none⟩) 1 cap] W fun e w' => e = .returned (Value.agg #[.int .u64 (setW pB5 0 : Int), .int .u64 (setW pB5 1 : Int), .int .u64 (setW pB5 2 : Int), .int .u64 (setW pB5 3 : Int)]) ∧ Below W.heap.size W w' := bof1 n 5 cap (by decide) W 5 hn
theorem bof0 (n cap : Nat) (W : World) (hn : Blk W n 5 #[.int .u8 0]) : Calls Tryd.prog 13 #[.slice (some ⟨n, 0, none⟩) 1 cap] W fun e w' => e = .returned (Value.agg #[.int .u64 (setW pB0 0 : Int), .int .u64 (setW pB0 1 : Int), .int .u64 (setW pB0 2 : Int), .int .u64 (setW pB0 3 : Int)]) ∧ Below W.heap.size W w' := bof1 n 0 cap (by decide) W 5 hn
theorem bunion0 (W : World) : Calls Tryd.prog 15 #[.slice none 0 0] W fun e w' => e = .returned (Value.agg #[.int .u64 (setW pU 0 : Int), .int .u64 (setW pU 1 : Int), .int .u64 (setW pU 2 : Int), .int .u64 (setW pU 3 : Int)]) ∧ Below W.heap.size W w' := bunion none 0 0 (fun _ => noP) (by decide) W (fun h => absurd h (by decide))
theorem bcommon0 (W : World) : Calls Tryd.prog 17 #[.slice none 0 0] W fun e w' => e = .returned (Value.agg #[.int .u64 (setW pC 0 : Int), .int .u64 (setW pC 1 : Int), .int .u64 (setW pC 2 : Int), .int .u64 (setW pC 3 : Int)]) ∧ Below W.heap.size W w' := bcommon none 0 0 (fun _ => noP) (by decide) W (fun h => absurd h (by decide))
set_option maxRecDepth 100000 in
set_option maxHeartbeats 8000000 in
theorem known (w : World) (hT : TabOk w) (hw : 0 < w.heap.size) : Calls Tryd.prog 6 #[] w fun e w' => e = .returned (.bool true) ∧ Below w.heap.size w w' := by
  go_enter Tryd.func6, Tryd.ntmps6
  have I0 : Below w.heap.size w w := Below.refl _ _
  have hq := eqInts
  obtain ⟨qa, qb, qc, qd⟩ := eq_U
  go_wp2_with (fail)
  refine (ok0 _).mono ?_
  rintro e W1 ⟨rfl, h1⟩
  have I1c := gr_call I0 h1
  clear h1
  go_wp2_with (fail)
  refine (blist pk0 _ (hT.below I1c hw) (Nat.lt_of_lt_of_le hw I1c.size)).mono ?_
  rintro e W2 ⟨vl, rfl, hown, h2⟩
  have hcs := list_str hown
  rw [str_A] at hcs
  have I2c := gr_call I1c h2
  clear h2 hown
  go_wp2_with (fail)
  refine (ok1 _).mono ?_
  rintro e W3 ⟨rfl, h3⟩
  have I3c := gr_call I2c h3
  clear h3
  skip
  go_wp2_with (fail)
  refine (tk0 _).mono ?_
  rintro e W4 ⟨rfl, h4⟩
  have I4c := gr_call I3c h4
  clear h4
  go_wp2_with (fail)
  refine (ok2 _).mono ?_
  rintro e W5 ⟨rfl, h5⟩
  have I5c := gr_call I4c h5
  clear h5
  go_wp2_with (fail)
  refine (tk1 _).mono ?_
  rintro e W6 ⟨rfl, h6⟩
  have I6c := gr_call I5c h6
  clear h6
  go_wp2_with (fail)
  refine (ok3 _).mono ?_
  rintro e W7 ⟨rfl, h7⟩
  have I7c := gr_call I6c h7
  clear h7
  go_wp2_with (fail)
  refine (tk2 _).mono ?_
  rintro e W8 ⟨rfl, h8⟩
  have I8c := gr_call I7c h8
  clear h8
  go_wp2_with (fail)
  refine (ok4 _).mono ?_
  rintro e W9 ⟨rfl, h9⟩
  have I9c := gr_call I8c h9
  clear h9
  go_wp2_with (fail)
  refine (tk3 _).mono ?_
  rintro e W10 ⟨rfl, h10⟩
  have I10c := gr_call I9c h10
  clear h10
  have I10a1 := gr_alloc I10c (.cells #[.int .u8 0] 5)
  go_wp2_with (fail)
  refine (bof0 _ _ _ (blk_at (by simp))).mono ?_
  rintro e W11 ⟨rfl, h11⟩
  have I11c := gr_call I10a1 h11
  clear h11
  go_wp2_with (fail)
  refine (bnot pB0 _).mono ?_
  rintro e W12 ⟨rfl, h12⟩
  have I12c := gr_call I11c h12
  clear h12
  go_wp2_with (fail)
  refine (tkN _).mono ?_
  rintro e W13 ⟨rfl, h13⟩
  have I13c := gr_call I12c h13
  clear h13
  go_wp2_with (fail)
  refine (fk0 _).mono ?_
  rintro e W14 ⟨rfl, h14⟩
  have I14c := gr_call I13c h14
  clear h14
  go_wp2_with (fail)
  refine (fk1 _).mono ?_
  rintro e W15 ⟨rfl, h15⟩
  have I15c := gr_call I14c h15
  clear h15
  go_wp2_with (fail)
  refine (fk2 _).mono ?_
  rintro e W16 ⟨rfl, h16⟩
  have I16c := gr_call I15c h16
  clear h16
  go_wp2_with (fail)
  refine (ok5 _).mono ?_
  rintro e W17 ⟨rfl, h17⟩
  have I17c := gr_call I16c h17
  clear h17
  go_wp2_with (fail)
  refine (pkA _).mono ?_
  rintro e W18 ⟨rfl, h18⟩
  have I18c := gr_call I17c h18
  clear h18
  go_wp2_with (fail)
  refine (fk3 _).mono ?_
  rintro e W19 ⟨rfl, h19⟩
  have I19c := gr_call I18c h19
  clear h19
  have I19a2 := gr_alloc I19c (.cells #[.int .u8 5, .int .u8 9] 5)
  go_wp2_with (fail)
  refine (bof59 _ _ _ (blk_at (by simp))).mono ?_
  rintro e W20 ⟨rfl, h20⟩
  have I20c := gr_call I19a2 h20
  clear h20
  go_wp2_with (fail)
  refine (nk0 _ (hT.below I20c hw) (Nat.lt_of_lt_of_le hw I20c.size)).mono ?_
  rintro e W21 ⟨rfl, h21⟩
  have I21c := gr_call I20c h21
  clear h21
  have I21a3 := gr_alloc I21c (.cells #[.int .u8 5, .int .u8 9] 5)
  go_wp2_with (fail)
  refine (bof59 _ _ _ (blk_at (by simp))).mono ?_
  rintro e W22 ⟨rfl, h22⟩
  have I22c := gr_call I21a3 h22
  clear h22
  go_wp2_with (fail)
  refine (nk1 _ (hT.below I22c hw) (Nat.lt_of_lt_of_le hw I22c.size)).mono ?_
  rintro e W23 ⟨rfl, h23⟩
  have I23c := gr_call I22c h23
  clear h23
  have I23a4 := gr_alloc I23c (.cells #[.int .u8 5] 5)
  go_wp2_with (fail)
  refine (bof5 _ _ _ (blk_at (by simp))).mono ?_
  rintro e W24 ⟨rfl, h24⟩
  have I24c := gr_call I23a4 h24
  clear h24
  go_wp2_with (fail)
  refine (nk2 _ (hT.below I24c hw) (Nat.lt_of_lt_of_le hw I24c.size)).mono ?_
  rintro e W25 ⟨rfl, h25⟩
  have I25c := gr_call I24c h25
  clear h25
  go_wp2_with (fail)
  refine (awake _ (hT.below I25c hw) (Nat.lt_of_lt_of_le hw I25c.size)).mono ?_
  rintro e W26 ⟨rfl, h26⟩
  have I26c := gr_call I25c h26
  clear h26
  go_wp2_with (fail)
  refine (bunion0 _).mono ?_
  rintro e W27 ⟨rfl, h27⟩
  have I27c := gr_call I26c h27
  clear h27
  go_wp2_with (fail)
  refine (bcommon0 _).mono ?_
  rintro e W28 ⟨rfl, h28⟩
  have I28c := gr_call I27c h28
  clear h28
  go_wp2_with (fail)
  refine (ckC _).mono ?_
  rintro e W29 ⟨rfl, h29⟩
  have I29c := gr_call I28c h29
  clear h29
  go_wp2_with (fail)
  refine (ok6 _).mono ?_
  rintro e W30 ⟨rfl, h30⟩
  have I30c := gr_call I29c h30
  clear h30
  go_wp2_with (fail)
  refine (ak0 _).mono ?_
  rintro e W31 ⟨rfl, h31⟩
  have I31c := gr_call I30c h31
  clear h31
  go_wp2_with (fail)
  refine (ok6 _).mono ?_
  rintro e W32 ⟨rfl, h32⟩
  have I32c := gr_call I31c h32
  clear h32
  go_wp2_with (fail)
  refine (ak1 _).mono ?_
  rintro e W33 ⟨rfl, h33⟩
  have I33c := gr_call I32c h33
  clear h33
  go_wp2_with (fail)
  go_ret
  exact ⟨rfl, I33c⟩

end Go.Proofs.YtcfdadgijnmemaaDoor
