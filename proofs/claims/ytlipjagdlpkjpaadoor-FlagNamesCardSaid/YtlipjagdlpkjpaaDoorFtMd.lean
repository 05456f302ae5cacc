/-
  made and names, walked; no condition.
-/
import Derived.Test.YtlipjagdlpkjpaaDoorFtMk
import Derived.Test.YtlipjagdlpkjpaaDoorMod
import Derived.Test.YtlipjagdlpkjpaaDoorFtU
namespace Go.Proofs.YtlipjagdlpkjpaaDoor
open Go.RowKit
set_option linter.unusedVariables false
set_option linter.unusedSimpArgs false

/-- Which flags are made of a number. -/
def madeI (m : Nat) : Nat := if m % 9 = 6 then 7 + m / 9 % 63 else if m % 9 = 7 then 70 + m / 9 % 5 else if m % 9 = 8 then 6 else m % 9
def madeF (m : Nat) : Flg := wayF (madeI m) (m / 600 % 3 == 0) (m / 600 % 3 == 1)
set_option maxRecDepth 100000 in
set_option maxHeartbeats 400000 in
theorem made_res (A : Nat) (f : Flg) (tmps : Array Value) (w : World) (h2 : tmps.getD 2 undef = .pointer (some ⟨A, 0, none⟩))
    (hA : Blk w A 24 #[Value.bool f.last, .bool f.next, .bool f.chain, .bool f.fin, .bool f.forb, .bool f.gone, .bool f.app, .bool f.disc, .int .i64 f.skip, .int .i64 f.red]) :
    (results Tryd.f27 tmps).run Tryd.prog w = .ok (Value.agg #[Value.bool f.last, .bool f.next, .bool f.chain, .bool f.fin, .bool f.forb, .bool f.gone, .bool f.app, .bool f.disc, .int .i64 f.skip, .int .i64 f.red]) w := by
  have a0 := hA.cell' (i := 0) rfl
  have a1 := hA.cell' (i := 1) rfl
  have a2 := hA.cell' (i := 2) rfl
  have a3 := hA.cell' (i := 3) rfl
  have a4 := hA.cell' (i := 4) rfl
  have a5 := hA.cell' (i := 5) rfl
  have a6 := hA.cell' (i := 6) rfl
  have a7 := hA.cell' (i := 7) rfl
  have a8 := hA.cell' (i := 8) rfl
  have a9 := hA.cell' (i := 9) rfl
  simp only [List.getElem_toArray, List.getElem_cons_zero, List.getElem_cons_succ] at a0 a1 a2 a3 a4 a5 a6 a7 a8 a9
  clear hA
  simp only [Array.getD_eq_getD_getElem?] at h2
  simp [results, Tryd.results27, go_sem, h2, a0, a1, a2, a3, a4, a5, a6, a7, a8, a9]
theorem made_by {m i : Nat} {f : Flg} (h : madeI m = i) (hf : eqF (wayF i (m / 600 % 3 == 0) (m / 600 % 3 == 1)) f = true) : madeF m = f := by
  unfold madeF
  rw [h]
  exact eqF_eq hf
theorem beq_cast (a b : Nat) : ((a : Int) == (b : Int)) = (a == b) := by
  rw [Bool.eq_iff_iff, beq_iff_eq, beq_iff_eq]
  omega

set_option maxRecDepth 100000 in
set_option maxHeartbeats 2000000 in
theorem made0 (n : Int) (hn : -9223372036854775808 ≤ n ∧ n ≤ 9223372036854775807) (m : Nat) (hm : n % 1048576 = (m : Int)) (h9 : m % 9 = 0) (w : World) :
    Calls Tryd.prog 27 #[.int .i64 n] w fun e W' => e = .returned (Value.agg #[Value.bool ((madeF m)).last, .bool ((madeF m)).next, .bool ((madeF m)).chain, .bool ((madeF m)).fin, .bool ((madeF m)).forb, .bool ((madeF m)).gone, .bool ((madeF m)).app, .bool ((madeF m)).disc, .int .i64 ((madeF m)).skip, .int .i64 ((madeF m)).red]) ∧ Below w.heap.size w W' := by
  have h9i : (m : Int) % 9 = 0 := by omega
  obtain ⟨a, ha⟩ : ∃ a, a = (m / 600 % 3 == 0) := ⟨_, rfl⟩
  obtain ⟨b, hb⟩ : ∃ b, b = (m / 600 % 3 == 1) := ⟨_, rfl⟩
  have hA : ((m : Int) / 600 % 3 == 0) = a := by rw [ha, Bool.eq_iff_iff, beq_iff_eq, beq_iff_eq]; omega
  have hB : ((m : Int) / 600 % 3 == 1) = b := by rw [hb, Bool.eq_iff_iff, beq_iff_eq, beq_iff_eq]; omega
  have hmb : (m : Int) < 1048576 := by have := Int.emod_lt_of_pos n (show (0 : Int) < 1048576 by decide); omega
  have HF : Hid (madeF m = ⟨true, false, false, false, false, false, a, b, 0, 0⟩) := Lib.hid (by
    have hi : madeI m = 0 := by unfold madeI; rw [if_neg (by omega), if_neg (by omega), if_neg (by omega)]; exact h9
    unfold madeF
    rw [hi, ← ha, ← hb]
    unfold wayF
    rfl)
  clear ha hb
  go_enter Tryd.func27, Tryd.ntmps27
  go_wp2_with (fail)
  refine (kmod n 1048576 _ hn (by decide)).mono ?_
  rintro e W1 ⟨rfl, h1⟩
  rw [hm]
  have H1 := Lib.hid (And.intro ((Blk.new w 24 #[Value.bool zeroF.last, .bool zeroF.next, .bool zeroF.chain, .bool zeroF.fin, .bool zeroF.forb, .bool zeroF.gone, .bool zeroF.app, .bool zeroF.disc, .int .i64 zeroF.skip, .int .i64 zeroF.red]).call h1) (gr_call (gr_alloc (Below.refl w.heap.size w) (.cells #[Value.bool zeroF.last, .bool zeroF.next, .bool zeroF.chain, .bool zeroF.fin, .bool zeroF.forb, .bool zeroF.gone, .bool zeroF.app, .bool zeroF.disc, .int .i64 zeroF.skip, .int .i64 zeroF.red] 24)) h1))
  clear h1
  have z0 : W1.cell? ⟨w.heap.size, 0, none⟩ = some (.bool false) := H1.out.1.cell' (i := 0) rfl
  have z1 : W1.cell? ⟨w.heap.size, 1, none⟩ = some (.bool false) := H1.out.1.cell' (i := 1) rfl
  have z2 : W1.cell? ⟨w.heap.size, 2, none⟩ = some (.bool false) := H1.out.1.cell' (i := 2) rfl
  have z3 : W1.cell? ⟨w.heap.size, 3, none⟩ = some (.bool false) := H1.out.1.cell' (i := 3) rfl
  have z4 : W1.cell? ⟨w.heap.size, 4, none⟩ = some (.bool false) := H1.out.1.cell' (i := 4) rfl
  have z5 : W1.cell? ⟨w.heap.size, 5, none⟩ = some (.bool false) := H1.out.1.cell' (i := 5) rfl
  have z6 : W1.cell? ⟨w.heap.size, 6, none⟩ = some (.bool false) := H1.out.1.cell' (i := 6) rfl
  have z7 : W1.cell? ⟨w.heap.size, 7, none⟩ = some (.bool false) := H1.out.1.cell' (i := 7) rfl
  have z8 : W1.cell? ⟨w.heap.size, 8, none⟩ = some (.int .i64 0) := H1.out.1.cell' (i := 8) rfl
  have z9 : W1.cell? ⟨w.heap.size, 9, none⟩ = some (.int .i64 0) := H1.out.1.cell' (i := 9) rfl
  have zl := H1.out.1.lt
  have q0 := H1.out.1.frozen 0
  have q1 := H1.out.1.frozen 1
  have q2 := H1.out.1.frozen 2
  have q3 := H1.out.1.frozen 3
  have q4 := H1.out.1.frozen 4
  have q5 := H1.out.1.frozen 5
  have q6 := H1.out.1.frozen 6
  have q7 := H1.out.1.frozen 7
  have q8 := H1.out.1.frozen 8
  have q9 := H1.out.1.frozen 9
  go_wp2_with (fail)
  refine bodyPost_ret (made_res w.heap.size (⟨true, false, false, false, false, false, a, b, 0, 0⟩ : Flg) _ _ rfl ((lay10_same H1.out.1 rfl _ _ _ _ _ _ _ _ _ _).alloc _)) rfl ?_
  refine ⟨by rw [HF.out], ?_⟩
  exact gr_alloc (H1.out.2.trans ((lay10_x (BelowX.refl w.heap.size w.heap.size _) _ _ _ _ _ _ _ _ _ _).below (Nat.le_refl _) (Nat.le_refl _))) _

set_option maxRecDepth 100000 in
set_option maxHeartbeats 2000000 in
theorem made1 (n : Int) (hn : -9223372036854775808 ≤ n ∧ n ≤ 9223372036854775807) (m : Nat) (hm : n % 1048576 = (m : Int)) (h9 : m % 9 = 1) (w : World) :
    Calls Tryd.prog 27 #[.int .i64 n] w fun e W' => e = .returned (Value.agg #[Value.bool ((madeF m)).last, .bool ((madeF m)).next, .bool ((madeF m)).chain, .bool ((madeF m)).fin, .bool ((madeF m)).forb, .bool ((madeF m)).gone, .bool ((madeF m)).app, .bool ((madeF m)).disc, .int .i64 ((madeF m)).skip, .int .i64 ((madeF m)).red]) ∧ Below w.heap.size w W' := by
  have h9i : (m : Int) % 9 = 1 := by omega
  obtain ⟨a, ha⟩ : ∃ a, a = (m / 600 % 3 == 0) := ⟨_, rfl⟩
  obtain ⟨b, hb⟩ : ∃ b, b = (m / 600 % 3 == 1) := ⟨_, rfl⟩
  have hA : ((m : Int) / 600 % 3 == 0) = a := by rw [ha, Bool.eq_iff_iff, beq_iff_eq, beq_iff_eq]; omega
  have hB : ((m : Int) / 600 % 3 == 1) = b := by rw [hb, Bool.eq_iff_iff, beq_iff_eq, beq_iff_eq]; omega
  have hmb : (m : Int) < 1048576 := by have := Int.emod_lt_of_pos n (show (0 : Int) < 1048576 by decide); omega
  have HF : Hid (madeF m = ⟨false, true, false, false, false, false, a, b, 0, 0⟩) := Lib.hid (by
    have hi : madeI m = 1 := by unfold madeI; rw [if_neg (by omega), if_neg (by omega), if_neg (by omega)]; exact h9
    unfold madeF
    rw [hi, ← ha, ← hb]
    unfold wayF
    rfl)
  clear ha hb
  go_enter Tryd.func27, Tryd.ntmps27
  go_wp2_with (fail)
  refine (kmod n 1048576 _ hn (by decide)).mono ?_
  rintro e W1 ⟨rfl, h1⟩
  rw [hm]
  have H1 := Lib.hid (And.intro ((Blk.new w 24 #[Value.bool zeroF.last, .bool zeroF.next, .bool zeroF.chain, .bool zeroF.fin, .bool zeroF.forb, .bool zeroF.gone, .bool zeroF.app, .bool zeroF.disc, .int .i64 zeroF.skip, .int .i64 zeroF.red]).call h1) (gr_call (gr_alloc (Below.refl w.heap.size w) (.cells #[Value.bool zeroF.last, .bool zeroF.next, .bool zeroF.chain, .bool zeroF.fin, .bool zeroF.forb, .bool zeroF.gone, .bool zeroF.app, .bool zeroF.disc, .int .i64 zeroF.skip, .int .i64 zeroF.red] 24)) h1))
  clear h1
  have z0 : W1.cell? ⟨w.heap.size, 0, none⟩ = some (.bool false) := H1.out.1.cell' (i := 0) rfl
  have z1 : W1.cell? ⟨w.heap.size, 1, none⟩ = some (.bool false) := H1.out.1.cell' (i := 1) rfl
  have z2 : W1.cell? ⟨w.heap.size, 2, none⟩ = some (.bool false) := H1.out.1.cell' (i := 2) rfl
  have z3 : W1.cell? ⟨w.heap.size, 3, none⟩ = some (.bool false) := H1.out.1.cell' (i := 3) rfl
  have z4 : W1.cell? ⟨w.heap.size, 4, none⟩ = some (.bool false) := H1.out.1.cell' (i := 4) rfl
  have z5 : W1.cell? ⟨w.heap.size, 5, none⟩ = some (.bool false) := H1.out.1.cell' (i := 5) rfl
  have z6 : W1.cell? ⟨w.heap.size, 6, none⟩ = some (.bool false) := H1.out.1.cell' (i := 6) rfl
  have z7 : W1.cell? ⟨w.heap.size, 7, none⟩ = some (.bool false) := H1.out.1.cell' (i := 7) rfl
  have z8 : W1.cell? ⟨w.heap.size, 8, none⟩ = some (.int .i64 0) := H1.out.1.cell' (i := 8) rfl
  have z9 : W1.cell? ⟨w.heap.size, 9, none⟩ = some (.int .i64 0) := H1.out.1.cell' (i := 9) rfl
  have zl := H1.out.1.lt
  have q0 := H1.out.1.frozen 0
  have q1 := H1.out.1.frozen 1
  have q2 := H1.out.1.frozen 2
  have q3 := H1.out.1.frozen 3
  have q4 := H1.out.1.frozen 4
  have q5 := H1.out.1.frozen 5
  have q6 := H1.out.1.frozen 6
  have q7 := H1.out.1.frozen 7
  have q8 := H1.out.1.frozen 8
  have q9 := H1.out.1.frozen 9
  go_wp2_with (fail)
  refine bodyPost_ret (made_res w.heap.size (⟨false, true, false, false, false, false, a, b, 0, 0⟩ : Flg) _ _ rfl ((lay10_same H1.out.1 rfl _ _ _ _ _ _ _ _ _ _).alloc _)) rfl ?_
  refine ⟨by rw [HF.out], ?_⟩
  exact gr_alloc (H1.out.2.trans ((lay10_x (BelowX.refl w.heap.size w.heap.size _) _ _ _ _ _ _ _ _ _ _).below (Nat.le_refl _) (Nat.le_refl _))) _

set_option maxRecDepth 100000 in
set_option maxHeartbeats 2000000 in
theorem made2 (n : Int) (hn : -9223372036854775808 ≤ n ∧ n ≤ 9223372036854775807) (m : Nat) (hm : n % 1048576 = (m : Int)) (h9 : m % 9 = 2) (w : World) :
    Calls Tryd.prog 27 #[.int .i64 n] w fun e W' => e = .returned (Value.agg #[Value.bool ((madeF m)).last, .bool ((madeF m)).next, .bool ((madeF m)).chain, .bool ((madeF m)).fin, .bool ((madeF m)).forb, .bool ((madeF m)).gone, .bool ((madeF m)).app, .bool ((madeF m)).disc, .int .i64 ((madeF m)).skip, .int .i64 ((madeF m)).red]) ∧ Below w.heap.size w W' := by
  have h9i : (m : Int) % 9 = 2 := by omega
  obtain ⟨a, ha⟩ : ∃ a, a = (m / 600 % 3 == 0) := ⟨_, rfl⟩
  obtain ⟨b, hb⟩ : ∃ b, b = (m / 600 % 3 == 1) := ⟨_, rfl⟩
  have hA : ((m : Int) / 600 % 3 == 0) = a := by rw [ha, Bool.eq_iff_iff, beq_iff_eq, beq_iff_eq]; omega
  have hB : ((m : Int) / 600 % 3 == 1) = b := by rw [hb, Bool.eq_iff_iff, beq_iff_eq, beq_iff_eq]; omega
  have hmb : (m : Int) < 1048576 := by have := Int.emod_lt_of_pos n (show (0 : Int) < 1048576 by decide); omega
  have HF : Hid (madeF m = ⟨false, false, true, false, false, false, a, b, 0, 0⟩) := Lib.hid (by
    have hi : madeI m = 2 := by unfold madeI; rw [if_neg (by omega), if_neg (by omega), if_neg (by omega)]; exact h9
    unfold madeF
    rw [hi, ← ha, ← hb]
    unfold wayF
    rfl)
  clear ha hb
  go_enter Tryd.func27, Tryd.ntmps27
  go_wp2_with (fail)
  refine (kmod n 1048576 _ hn (by decide)).mono ?_
  rintro e W1 ⟨rfl, h1⟩
  rw [hm]
  have H1 := Lib.hid (And.intro ((Blk.new w 24 #[Value.bool zeroF.last, .bool zeroF.next, .bool zeroF.chain, .bool zeroF.fin, .bool zeroF.forb, .bool zeroF.gone, .bool zeroF.app, .bool zeroF.disc, .int .i64 zeroF.skip, .int .i64 zeroF.red]).call h1) (gr_call (gr_alloc (Below.refl w.heap.size w) (.cells #[Value.bool zeroF.last, .bool zeroF.next, .bool zeroF.chain, .bool zeroF.fin, .bool zeroF.forb, .bool zeroF.gone, .bool zeroF.app, .bool zeroF.disc, .int .i64 zeroF.skip, .int .i64 zeroF.red] 24)) h1))
  clear h1
  have z0 : W1.cell? ⟨w.heap.size, 0, none⟩ = some (.bool false) := H1.out.1.cell' (i := 0) rfl
  have z1 : W1.cell? ⟨w.heap.size, 1, none⟩ = some (.bool false) := H1.out.1.cell' (i := 1) rfl
  have z2 : W1.cell? ⟨w.heap.size, 2, none⟩ = some (.bool false) := H1.out.1.cell' (i := 2) rfl
  have z3 : W1.cell? ⟨w.heap.size, 3, none⟩ = some (.bool false) := H1.out.1.cell' (i := 3) rfl
  have z4 : W1.cell? ⟨w.heap.size, 4, none⟩ = some (.bool false) := H1.out.1.cell' (i := 4) rfl
  have z5 : W1.cell? ⟨w.heap.size, 5, none⟩ = some (.bool false) := H1.out.1.cell' (i := 5) rfl
  have z6 : W1.cell? ⟨w.heap.size, 6, none⟩ = some (.bool false) := H1.out.1.cell' (i := 6) rfl
  have z7 : W1.cell? ⟨w.heap.size, 7, none⟩ = some (.bool false) := H1.out.1.cell' (i := 7) rfl
  have z8 : W1.cell? ⟨w.heap.size, 8, none⟩ = some (.int .i64 0) := H1.out.1.cell' (i := 8) rfl
  have z9 : W1.cell? ⟨w.heap.size, 9, none⟩ = some (.int .i64 0) := H1.out.1.cell' (i := 9) rfl
  have zl := H1.out.1.lt
  have q0 := H1.out.1.frozen 0
  have q1 := H1.out.1.frozen 1
  have q2 := H1.out.1.frozen 2
  have q3 := H1.out.1.frozen 3
  have q4 := H1.out.1.frozen 4
  have q5 := H1.out.1.frozen 5
  have q6 := H1.out.1.frozen 6
  have q7 := H1.out.1.frozen 7
  have q8 := H1.out.1.frozen 8
  have q9 := H1.out.1.frozen 9
  go_wp2_with (fail)
  refine bodyPost_ret (made_res w.heap.size (⟨false, false, true, false, false, false, a, b, 0, 0⟩ : Flg) _ _ rfl ((lay10_same H1.out.1 rfl _ _ _ _ _ _ _ _ _ _).alloc _)) rfl ?_
  refine ⟨by rw [HF.out], ?_⟩
  exact gr_alloc (H1.out.2.trans ((lay10_x (BelowX.refl w.heap.size w.heap.size _) _ _ _ _ _ _ _ _ _ _).below (Nat.le_refl _) (Nat.le_refl _))) _

set_option maxRecDepth 100000 in
set_option maxHeartbeats 2000000 in
theorem made3 (n : Int) (hn : -9223372036854775808 ≤ n ∧ n ≤ 9223372036854775807) (m : Nat) (hm : n % 1048576 = (m : Int)) (h9 : m % 9 = 3) (w : World) :
    Calls Tryd.prog 27 #[.int .i64 n] w fun e W' => e = .returned (Value.agg #[Value.bool ((madeF m)).last, .bool ((madeF m)).next, .bool ((madeF m)).chain, .bool ((madeF m)).fin, .bool ((madeF m)).forb, .bool ((madeF m)).gone, .bool ((madeF m)).app, .bool ((madeF m)).disc, .int .i64 ((madeF m)).skip, .int .i64 ((madeF m)).red]) ∧ Below w.heap.size w W' := by
  have h9i : (m : Int) % 9 = 3 := by omega
  obtain ⟨a, ha⟩ : ∃ a, a = (m / 600 % 3 == 0) := ⟨_, rfl⟩
  obtain ⟨b, hb⟩ : ∃ b, b = (m / 600 % 3 == 1) := ⟨_, rfl⟩
  have hA : ((m : Int) / 600 % 3 == 0) = a := by rw [ha, Bool.eq_iff_iff, beq_iff_eq, beq_iff_eq]; omega
  have hB : ((m : Int) / 600 % 3 == 1) = b := by rw [hb, Bool.eq_iff_iff, beq_iff_eq, beq_iff_eq]; omega
  have hmb : (m : Int) < 1048576 := by have := Int.emod_lt_of_pos n (show (0 : Int) < 1048576 by decide); omega
  have HF : Hid (madeF m = ⟨false, false, false, true, false, false, a, b, 0, 0⟩) := Lib.hid (by
    have hi : madeI m = 3 := by unfold madeI; rw [if_neg (by omega), if_neg (by omega), if_neg (by omega)]; exact h9
    unfold madeF
    rw [hi, ← ha, ← hb]
    unfold wayF
    rfl)
  clear ha hb
  go_enter Tryd.func27, Tryd.ntmps27
  go_wp2_with (fail)
  refine (kmod n 1048576 _ hn (by decide)).mono ?_
  rintro e W1 ⟨rfl, h1⟩
  rw [hm]
  have H1 := Lib.hid (And.intro ((Blk.new w 24 #[Value.bool zeroF.last, .bool zeroF.next, .bool zeroF.chain, .bool zeroF.fin, .bool zeroF.forb, .bool zeroF.gone, .bool zeroF.app, .bool zeroF.disc, .int .i64 zeroF.skip, .int .i64 zeroF.red]).call h1) (gr_call (gr_alloc (Below.refl w.heap.size w) (.cells #[Value.bool zeroF.last, .bool zeroF.next, .bool zeroF.chain, .bool zeroF.fin, .bool zeroF.forb, .bool zeroF.gone, .bool zeroF.app, .bool zeroF.disc, .int .i64 zeroF.skip, .int .i64 zeroF.red] 24)) h1))
  clear h1
  have z0 : W1.cell? ⟨w.heap.size, 0, none⟩ = some (.bool false) := H1.out.1.cell' (i := 0) rfl
  have z1 : W1.cell? ⟨w.heap.size, 1, none⟩ = some (.bool false) := H1.out.1.cell' (i := 1) rfl
  have z2 : W1.cell? ⟨w.heap.size, 2, none⟩ = some (.bool false) := H1.out.1.cell' (i := 2) rfl
  have z3 : W1.cell? ⟨w.heap.size, 3, none⟩ = some (.bool false) := H1.out.1.cell' (i := 3) rfl
  have z4 : W1.cell? ⟨w.heap.size, 4, none⟩ = some (.bool false) := H1.out.1.cell' (i := 4) rfl
  have z5 : W1.cell? ⟨w.heap.size, 5, none⟩ = some (.bool false) := H1.out.1.cell' (i := 5) rfl
  have z6 : W1.cell? ⟨w.heap.size, 6, none⟩ = some (.bool false) := H1.out.1.cell' (i := 6) rfl
  have z7 : W1.cell? ⟨w.heap.size, 7, none⟩ = some (.bool false) := H1.out.1.cell' (i := 7) rfl
  have z8 : W1.cell? ⟨w.heap.size, 8, none⟩ = some (.int .i64 0) := H1.out.1.cell' (i := 8) rfl
  have z9 : W1.cell? ⟨w.heap.size, 9, none⟩ = some (.int .i64 0) := H1.out.1.cell' (i := 9) rfl
  have zl := H1.out.1.lt
  have q0 := H1.out.1.frozen 0
  have q1 := H1.out.1.frozen 1
  have q2 := H1.out.1.frozen 2
  have q3 := H1.out.1.frozen 3
  have q4 := H1.out.1.frozen 4
  have q5 := H1.out.1.frozen 5
  have q6 := H1.out.1.frozen 6
  have q7 := H1.out.1.frozen 7
  have q8 := H1.out.1.frozen 8
  have q9 := H1.out.1.frozen 9
  go_wp2_with (fail)
  refine bodyPost_ret (made_res w.heap.size (⟨false, false, false, true, false, false, a, b, 0, 0⟩ : Flg) _ _ rfl ((lay10_same H1.out.1 rfl _ _ _ _ _ _ _ _ _ _).alloc _)) rfl ?_
  refine ⟨by rw [HF.out], ?_⟩
  exact gr_alloc (H1.out.2.trans ((lay10_x (BelowX.refl w.heap.size w.heap.size _) _ _ _ _ _ _ _ _ _ _).below (Nat.le_refl _) (Nat.le_refl _))) _

set_option maxRecDepth 100000 in
set_option maxHeartbeats 2000000 in
theorem made4 (n : Int) (hn : -9223372036854775808 ≤ n ∧ n ≤ 9223372036854775807) (m : Nat) (hm : n % 1048576 = (m : Int)) (h9 : m % 9 = 4) (w : World) :
    Calls Tryd.prog 27 #[.int .i64 n] w fun e W' => e = .returned (Value.agg #[Value.bool ((madeF m)).last, .bool ((madeF m)).next, .bool ((madeF m)).chain, .bool ((madeF m)).fin, .bool ((madeF m)).forb, .bool ((madeF m)).gone, .bool ((madeF m)).app, .bool ((madeF m)).disc, .int .i64 ((madeF m)).skip, .int .i64 ((madeF m)).red]) ∧ Below w.heap.size w W' := by
  have h9i : (m : Int) % 9 = 4 := by omega
  obtain ⟨a, ha⟩ : ∃ a, a = (m / 600 % 3 == 0) := ⟨_, rfl⟩
  obtain ⟨b, hb⟩ : ∃ b, b = (m / 600 % 3 == 1) := ⟨_, rfl⟩
  have hA : ((m : Int) / 600 % 3 == 0) = a := by rw [ha, Bool.eq_iff_iff, beq_iff_eq, beq_iff_eq]; omega
  have hB : ((m : Int) / 600 % 3 == 1) = b := by rw [hb, Bool.eq_iff_iff, beq_iff_eq, beq_iff_eq]; omega
  have hmb : (m : Int) < 1048576 := by have := Int.emod_lt_of_pos n (show (0 : Int) < 1048576 by decide); omega
  have HF : Hid (madeF m = ⟨false, false, false, false, true, false, false, false, 0, 0⟩) := Lib.hid (by
    have hi : madeI m = 4 := by unfold madeI; rw [if_neg (by omega), if_neg (by omega), if_neg (by omega)]; exact h9
    unfold madeF
    rw [hi, ← ha, ← hb]
    unfold wayF
    rfl)
  clear ha hb
  go_enter Tryd.func27, Tryd.ntmps27
  go_wp2_with (fail)
  refine (kmod n 1048576 _ hn (by decide)).mono ?_
  rintro e W1 ⟨rfl, h1⟩
  rw [hm]
  have H1 := Lib.hid (And.intro ((Blk.new w 24 #[Value.bool zeroF.last, .bool zeroF.next, .bool zeroF.chain, .bool zeroF.fin, .bool zeroF.forb, .bool zeroF.gone, .bool zeroF.app, .bool zeroF.disc, .int .i64 zeroF.skip, .int .i64 zeroF.red]).call h1) (gr_call (gr_alloc (Below.refl w.heap.size w) (.cells #[Value.bool zeroF.last, .bool zeroF.next, .bool zeroF.chain, .bool zeroF.fin, .bool zeroF.forb, .bool zeroF.gone, .bool zeroF.app, .bool zeroF.disc, .int .i64 zeroF.skip, .int .i64 zeroF.red] 24)) h1))
  clear h1
  have z0 : W1.cell? ⟨w.heap.size, 0, none⟩ = some (.bool false) := H1.out.1.cell' (i := 0) rfl
  have z1 : W1.cell? ⟨w.heap.size, 1, none⟩ = some (.bool false) := H1.out.1.cell' (i := 1) rfl
  have z2 : W1.cell? ⟨w.heap.size, 2, none⟩ = some (.bool false) := H1.out.1.cell' (i := 2) rfl
  have z3 : W1.cell? ⟨w.heap.size, 3, none⟩ = some (.bool false) := H1.out.1.cell' (i := 3) rfl
  have z4 : W1.cell? ⟨w.heap.size, 4, none⟩ = some (.bool false) := H1.out.1.cell' (i := 4) rfl
  have z5 : W1.cell? ⟨w.heap.size, 5, none⟩ = some (.bool false) := H1.out.1.cell' (i := 5) rfl
  have z6 : W1.cell? ⟨w.heap.size, 6, none⟩ = some (.bool false) := H1.out.1.cell' (i := 6) rfl
  have z7 : W1.cell? ⟨w.heap.size, 7, none⟩ = some (.bool false) := H1.out.1.cell' (i := 7) rfl
  have z8 : W1.cell? ⟨w.heap.size, 8, none⟩ = some (.int .i64 0) := H1.out.1.cell' (i := 8) rfl
  have z9 : W1.cell? ⟨w.heap.size, 9, none⟩ = some (.int .i64 0) := H1.out.1.cell' (i := 9) rfl
  have zl := H1.out.1.lt
  have q0 := H1.out.1.frozen 0
  have q1 := H1.out.1.frozen 1
  have q2 := H1.out.1.frozen 2
  have q3 := H1.out.1.frozen 3
  have q4 := H1.out.1.frozen 4
  have q5 := H1.out.1.frozen 5
  have q6 := H1.out.1.frozen 6
  have q7 := H1.out.1.frozen 7
  have q8 := H1.out.1.frozen 8
  have q9 := H1.out.1.frozen 9
  go_wp2_with (fail)
  refine bodyPost_ret (made_res w.heap.size (⟨false, false, false, false, true, false, false, false, 0, 0⟩ : Flg) _ _ rfl ((lay10_same H1.out.1 rfl _ _ _ _ _ _ _ _ _ _).alloc _)) rfl ?_
  refine ⟨by rw [HF.out], ?_⟩
  exact gr_alloc (H1.out.2.trans ((lay10_x (BelowX.refl w.heap.size w.heap.size _) _ _ _ _ _ _ _ _ _ _).below (Nat.le_refl _) (Nat.le_refl _))) _

set_option maxRecDepth 100000 in
set_option maxHeartbeats 2000000 in
theorem made5 (n : Int) (hn : -9223372036854775808 ≤ n ∧ n ≤ 9223372036854775807) (m : Nat) (hm : n % 1048576 = (m : Int)) (h9 : m % 9 = 5) (w : World) :
    Calls Tryd.prog 27 #[.int .i64 n] w fun e W' => e = .returned (Value.agg #[Value.bool ((madeF m)).last, .bool ((madeF m)).next, .bool ((madeF m)).chain, .bool ((madeF m)).fin, .bool ((madeF m)).forb, .bool ((madeF m)).gone, .bool ((madeF m)).app, .bool ((madeF m)).disc, .int .i64 ((madeF m)).skip, .int .i64 ((madeF m)).red]) ∧ Below w.heap.size w W' := by
  have h9i : (m : Int) % 9 = 5 := by omega
  obtain ⟨a, ha⟩ : ∃ a, a = (m / 600 % 3 == 0) := ⟨_, rfl⟩
  obtain ⟨b, hb⟩ : ∃ b, b = (m / 600 % 3 == 1) := ⟨_, rfl⟩
  have hA : ((m : Int) / 600 % 3 == 0) = a := by rw [ha, Bool.eq_iff_iff, beq_iff_eq, beq_iff_eq]; omega
  have hB : ((m : Int) / 600 % 3 == 1) = b := by rw [hb, Bool.eq_iff_iff, beq_iff_eq, beq_iff_eq]; omega
  have hmb : (m : Int) < 1048576 := by have := Int.emod_lt_of_pos n (show (0 : Int) < 1048576 by decide); omega
  have HF : Hid (madeF m = ⟨false, false, false, false, false, true, false, false, 0, 0⟩) := Lib.hid (by
    have hi : madeI m = 5 := by unfold madeI; rw [if_neg (by omega), if_neg (by omega), if_neg (by omega)]; exact h9
    unfold madeF
    rw [hi, ← ha, ← hb]
    unfold wayF
    rfl)
  clear ha hb
  go_enter Tryd.func27, Tryd.ntmps27
  go_wp2_with (fail)
  refine (kmod n 1048576 _ hn (by decide)).mono ?_
  rintro e W1 ⟨rfl, h1⟩
  rw [hm]
  have H1 := Lib.hid (And.intro ((Blk.new w 24 #[Value.bool zeroF.last, .bool zeroF.next, .bool zeroF.chain, .bool zeroF.fin, .bool zeroF.forb, .bool zeroF.gone, .bool zeroF.app, .bool zeroF.disc, .int .i64 zeroF.skip, .int .i64 zeroF.red]).call h1) (gr_call (gr_alloc (Below.refl w.heap.size w) (.cells #[Value.bool zeroF.last, .bool zeroF.next, .bool zeroF.chain, .bool zeroF.fin, .bool zeroF.forb, .bool zeroF.gone, .bool zeroF.app, .bool zeroF.disc, .int .i64 zeroF.skip, .int .i64 zeroF.red] 24)) h1))
  clear h1
  have z0 : W1.cell? ⟨w.heap.size, 0, none⟩ = some (.bool false) := H1.out.1.cell' (i := 0) rfl
  have z1 : W1.cell? ⟨w.heap.size, 1, none⟩ = some (.bool false) := H1.out.1.cell' (i := 1) rfl
  have z2 : W1.cell? ⟨w.heap.size, 2, none⟩ = some (.bool false) := H1.out.1.cell' (i := 2) rfl
  have z3 : W1.cell? ⟨w.heap.size, 3, none⟩ = some (.bool false) := H1.out.1.cell' (i := 3) rfl
  have z4 : W1.cell? ⟨w.heap.size, 4, none⟩ = some (.bool false) := H1.out.1.cell' (i := 4) rfl
  have z5 : W1.cell? ⟨w.heap.size, 5, none⟩ = some (.bool false) := H1.out.1.cell' (i := 5) rfl
  have z6 : W1.cell? ⟨w.heap.size, 6, none⟩ = some (.bool false) := H1.out.1.cell' (i := 6) rfl
  have z7 : W1.cell? ⟨w.heap.size, 7, none⟩ = some (.bool false) := H1.out.1.cell' (i := 7) rfl
  have z8 : W1.cell? ⟨w.heap.size, 8, none⟩ = some (.int .i64 0) := H1.out.1.cell' (i := 8) rfl
  have z9 : W1.cell? ⟨w.heap.size, 9, none⟩ = some (.int .i64 0) := H1.out.1.cell' (i := 9) rfl
  have zl := H1.out.1.lt
  have q0 := H1.out.1.frozen 0
  have q1 := H1.out.1.frozen 1
  have q2 := H1.out.1.frozen 2
  have q3 := H1.out.1.frozen 3
  have q4 := H1.out.1.frozen 4
  have q5 := H1.out.1.frozen 5
  have q6 := H1.out.1.frozen 6
  have q7 := H1.out.1.frozen 7
  have q8 := H1.out.1.frozen 8
  have q9 := H1.out.1.frozen 9
  go_wp2_with (fail)
  refine bodyPost_ret (made_res w.heap.size (⟨false, false, false, false, false, true, false, false, 0, 0⟩ : Flg) _ _ rfl ((lay10_same H1.out.1 rfl _ _ _ _ _ _ _ _ _ _).alloc _)) rfl ?_
  refine ⟨by rw [HF.out], ?_⟩
  exact gr_alloc (H1.out.2.trans ((lay10_x (BelowX.refl w.heap.size w.heap.size _) _ _ _ _ _ _ _ _ _ _).below (Nat.le_refl _) (Nat.le_refl _))) _

set_option maxRecDepth 100000 in
set_option maxHeartbeats 2000000 in
theorem made8 (n : Int) (hn : -9223372036854775808 ≤ n ∧ n ≤ 9223372036854775807) (m : Nat) (hm : n % 1048576 = (m : Int)) (h9 : m % 9 = 8) (w : World) :
    Calls Tryd.prog 27 #[.int .i64 n] w fun e W' => e = .returned (Value.agg #[Value.bool ((madeF m)).last, .bool ((madeF m)).next, .bool ((madeF m)).chain, .bool ((madeF m)).fin, .bool ((madeF m)).forb, .bool ((madeF m)).gone, .bool ((madeF m)).app, .bool ((madeF m)).disc, .int .i64 ((madeF m)).skip, .int .i64 ((madeF m)).red]) ∧ Below w.heap.size w W' := by
  have h9i : (m : Int) % 9 = 8 := by omega
  obtain ⟨a, ha⟩ : ∃ a, a = (m / 600 % 3 == 0) := ⟨_, rfl⟩
  obtain ⟨b, hb⟩ : ∃ b, b = (m / 600 % 3 == 1) := ⟨_, rfl⟩
  have hA : ((m : Int) / 600 % 3 == 0) = a := by rw [ha, Bool.eq_iff_iff, beq_iff_eq, beq_iff_eq]; omega
  have hB : ((m : Int) / 600 % 3 == 1) = b := by rw [hb, Bool.eq_iff_iff, beq_iff_eq, beq_iff_eq]; omega
  have hmb : (m : Int) < 1048576 := by have := Int.emod_lt_of_pos n (show (0 : Int) < 1048576 by decide); omega
  have HF : Hid (madeF m = ⟨false, false, false, false, false, false, a, b, 0, 0⟩) := Lib.hid (by
    have hi : madeI m = 6 := by unfold madeI; rw [if_neg (by omega), if_neg (by omega), if_pos h9]
    unfold madeF
    rw [hi, ← ha, ← hb]
    unfold wayF
    rfl)
  clear ha hb
  go_enter Tryd.func27, Tryd.ntmps27
  go_wp2_with (fail)
  refine (kmod n 1048576 _ hn (by decide)).mono ?_
  rintro e W1 ⟨rfl, h1⟩
  rw [hm]
  have H1 := Lib.hid (And.intro ((Blk.new w 24 #[Value.bool zeroF.last, .bool zeroF.next, .bool zeroF.chain, .bool zeroF.fin, .bool zeroF.forb, .bool zeroF.gone, .bool zeroF.app, .bool zeroF.disc, .int .i64 zeroF.skip, .int .i64 zeroF.red]).call h1) (gr_call (gr_alloc (Below.refl w.heap.size w) (.cells #[Value.bool zeroF.last, .bool zeroF.next, .bool zeroF.chain, .bool zeroF.fin, .bool zeroF.forb, .bool zeroF.gone, .bool zeroF.app, .bool zeroF.disc, .int .i64 zeroF.skip, .int .i64 zeroF.red] 24)) h1))
  clear h1
  have z0 : W1.cell? ⟨w.heap.size, 0, none⟩ = some (.bool false) := H1.out.1.cell' (i := 0) rfl
  have z1 : W1.cell? ⟨w.heap.size, 1, none⟩ = some (.bool false) := H1.out.1.cell' (i := 1) rfl
  have z2 : W1.cell? ⟨w.heap.size, 2, none⟩ = some (.bool false) := H1.out.1.cell' (i := 2) rfl
  have z3 : W1.cell? ⟨w.heap.size, 3, none⟩ = some (.bool false) := H1.out.1.cell' (i := 3) rfl
  have z4 : W1.cell? ⟨w.heap.size, 4, none⟩ = some (.bool false) := H1.out.1.cell' (i := 4) rfl
  have z5 : W1.cell? ⟨w.heap.size, 5, none⟩ = some (.bool false) := H1.out.1.cell' (i := 5) rfl
  have z6 : W1.cell? ⟨w.heap.size, 6, none⟩ = some (.bool false) := H1.out.1.cell' (i := 6) rfl
  have z7 : W1.cell? ⟨w.heap.size, 7, none⟩ = some (.bool false) := H1.out.1.cell' (i := 7) rfl
  have z8 : W1.cell? ⟨w.heap.size, 8, none⟩ = some (.int .i64 0) := H1.out.1.cell' (i := 8) rfl
  have z9 : W1.cell? ⟨w.heap.size, 9, none⟩ = some (.int .i64 0) := H1.out.1.cell' (i := 9) rfl
  have zl := H1.out.1.lt
  have q0 := H1.out.1.frozen 0
  have q1 := H1.out.1.frozen 1
  have q2 := H1.out.1.frozen 2
  have q3 := H1.out.1.frozen 3
  have q4 := H1.out.1.frozen 4
  have q5 := H1.out.1.frozen 5
  have q6 := H1.out.1.frozen 6
  have q7 := H1.out.1.frozen 7
  have q8 := H1.out.1.frozen 8
  have q9 := H1.out.1.frozen 9
  go_wp2_with (fail)
  refine bodyPost_ret (made_res w.heap.size (⟨false, false, false, false, false, false, a, b, 0, 0⟩ : Flg) _ _ rfl ((lay10_same H1.out.1 rfl _ _ _ _ _ _ _ _ _ _).alloc _)) rfl ?_
  refine ⟨by rw [HF.out], ?_⟩
  exact gr_alloc (H1.out.2.trans ((lay10_x (BelowX.refl w.heap.size w.heap.size _) _ _ _ _ _ _ _ _ _ _).below (Nat.le_refl _) (Nat.le_refl _))) _

set_option maxRecDepth 100000 in
set_option maxHeartbeats 2000000 in
theorem made6 (n : Int) (hn : -9223372036854775808 ≤ n ∧ n ≤ 9223372036854775807) (m : Nat) (hm : n % 1048576 = (m : Int)) (h9 : m % 9 = 6) (w : World) :
    Calls Tryd.prog 27 #[.int .i64 n] w fun e W' => e = .returned (Value.agg #[Value.bool ((madeF m)).last, .bool ((madeF m)).next, .bool ((madeF m)).chain, .bool ((madeF m)).fin, .bool ((madeF m)).forb, .bool ((madeF m)).gone, .bool ((madeF m)).app, .bool ((madeF m)).disc, .int .i64 ((madeF m)).skip, .int .i64 ((madeF m)).red]) ∧ Below w.heap.size w W' := by
  have h9i : (m : Int) % 9 = 6 := by omega
  have h63 : 0 ≤ (m : Int) / 9 % 63 ∧ (m : Int) / 9 % 63 < 63 := by omega
  obtain ⟨h630, h631⟩ := h63
  obtain ⟨a, ha⟩ : ∃ a, a = (m / 600 % 3 == 0) := ⟨_, rfl⟩
  obtain ⟨b, hb⟩ : ∃ b, b = (m / 600 % 3 == 1) := ⟨_, rfl⟩
  have hA : ((m : Int) / 600 % 3 == 0) = a := by rw [ha, Bool.eq_iff_iff, beq_iff_eq, beq_iff_eq]; omega
  have hB : ((m : Int) / 600 % 3 == 1) = b := by rw [hb, Bool.eq_iff_iff, beq_iff_eq, beq_iff_eq]; omega
  have hmb : (m : Int) < 1048576 := by have := Int.emod_lt_of_pos n (show (0 : Int) < 1048576 by decide); omega
  have HF : Hid (madeF m = ⟨false, false, false, false, false, false, a, b, 1 + (m : Int) / 9 % 63, 0⟩) := Lib.hid (by
    have hi : madeI m = 7 + m / 9 % 63 := by unfold madeI; rw [if_pos h9]
    unfold madeF
    rw [hi, ← ha, ← hb]
    unfold wayF
    have e1 : decide (7 + m / 9 % 63 = 0) = false := decide_eq_false (by omega)
    have e2 : decide (7 + m / 9 % 63 = 1) = false := decide_eq_false (by omega)
    have e3 : decide (7 + m / 9 % 63 = 2) = false := decide_eq_false (by omega)
    have e4 : decide (7 + m / 9 % 63 = 3) = false := decide_eq_false (by omega)
    have e5 : decide (7 + m / 9 % 63 = 4) = false := decide_eq_false (by omega)
    have e6 : decide (7 + m / 9 % 63 = 5) = false := decide_eq_false (by omega)
    have e7 : decide (7 + m / 9 % 63 ≠ 4) = true := decide_eq_true (by omega)
    have e8 : decide (7 + m / 9 % 63 ≠ 5) = true := decide_eq_true (by omega)
    rw [e1, e2, e3, e4, e5, e6, e7, e8, if_pos (by omega), if_neg (by omega), show ((7 + m / 9 % 63 : Nat) : Int) - 6 = 1 + (m : Int) / 9 % 63 by omega]
    rfl)
  clear ha hb
  go_enter Tryd.func27, Tryd.ntmps27
  go_wp2_with (fail)
  refine (kmod n 1048576 _ hn (by decide)).mono ?_
  rintro e W1 ⟨rfl, h1⟩
  rw [hm]
  have H1 := Lib.hid (And.intro ((Blk.new w 24 #[Value.bool zeroF.last, .bool zeroF.next, .bool zeroF.chain, .bool zeroF.fin, .bool zeroF.forb, .bool zeroF.gone, .bool zeroF.app, .bool zeroF.disc, .int .i64 zeroF.skip, .int .i64 zeroF.red]).call h1) (gr_call (gr_alloc (Below.refl w.heap.size w) (.cells #[Value.bool zeroF.last, .bool zeroF.next, .bool zeroF.chain, .bool zeroF.fin, .bool zeroF.forb, .bool zeroF.gone, .bool zeroF.app, .bool zeroF.disc, .int .i64 zeroF.skip, .int .i64 zeroF.red] 24)) h1))
  clear h1
  have z0 : W1.cell? ⟨w.heap.size, 0, none⟩ = some (.bool false) := H1.out.1.cell' (i := 0) rfl
  have z1 : W1.cell? ⟨w.heap.size, 1, none⟩ = some (.bool false) := H1.out.1.cell' (i := 1) rfl
  have z2 : W1.cell? ⟨w.heap.size, 2, none⟩ = some (.bool false) := H1.out.1.cell' (i := 2) rfl
  have z3 : W1.cell? ⟨w.heap.size, 3, none⟩ = some (.bool false) := H1.out.1.cell' (i := 3) rfl
  have z4 : W1.cell? ⟨w.heap.size, 4, none⟩ = some (.bool false) := H1.out.1.cell' (i := 4) rfl
  have z5 : W1.cell? ⟨w.heap.size, 5, none⟩ = some (.bool false) := H1.out.1.cell' (i := 5) rfl
  have z6 : W1.cell? ⟨w.heap.size, 6, none⟩ = some (.bool false) := H1.out.1.cell' (i := 6) rfl
  have z7 : W1.cell? ⟨w.heap.size, 7, none⟩ = some (.bool false) := H1.out.1.cell' (i := 7) rfl
  have z8 : W1.cell? ⟨w.heap.size, 8, none⟩ = some (.int .i64 0) := H1.out.1.cell' (i := 8) rfl
  have z9 : W1.cell? ⟨w.heap.size, 9, none⟩ = some (.int .i64 0) := H1.out.1.cell' (i := 9) rfl
  have zl := H1.out.1.lt
  have q0 := H1.out.1.frozen 0
  have q1 := H1.out.1.frozen 1
  have q2 := H1.out.1.frozen 2
  have q3 := H1.out.1.frozen 3
  have q4 := H1.out.1.frozen 4
  have q5 := H1.out.1.frozen 5
  have q6 := H1.out.1.frozen 6
  have q7 := H1.out.1.frozen 7
  have q8 := H1.out.1.frozen 8
  have q9 := H1.out.1.frozen 9
  go_wp2_with (fail)
  refine bodyPost_ret (made_res w.heap.size (⟨false, false, false, false, false, false, a, b, 1 + (m : Int) / 9 % 63, 0⟩ : Flg) _ _ rfl ((lay10_same H1.out.1 rfl _ _ _ _ _ _ _ _ _ _).alloc _)) rfl ?_
  refine ⟨by rw [HF.out], ?_⟩
  exact gr_alloc (H1.out.2.trans ((lay10_x (BelowX.refl w.heap.size w.heap.size _) _ _ _ _ _ _ _ _ _ _).below (Nat.le_refl _) (Nat.le_refl _))) _

set_option maxRecDepth 100000 in
set_option maxHeartbeats 2000000 in
theorem made7_0 (n : Int) (hn : -9223372036854775808 ≤ n ∧ n ≤ 9223372036854775807) (m : Nat) (hm : n % 1048576 = (m : Int)) (h9 : m % 9 = 7) (h5 : m / 9 % 5 = 0) (w : World) :
    Calls Tryd.prog 27 #[.int .i64 n] w fun e W' => e = .returned (Value.agg #[Value.bool ((madeF m)).last, .bool ((madeF m)).next, .bool ((madeF m)).chain, .bool ((madeF m)).fin, .bool ((madeF m)).forb, .bool ((madeF m)).gone, .bool ((madeF m)).app, .bool ((madeF m)).disc, .int .i64 ((madeF m)).skip, .int .i64 ((madeF m)).red]) ∧ Below w.heap.size w W' := by
  have h9i : (m : Int) % 9 = 7 := by omega
  have h5i : (m : Int) / 9 % 5 = 0 := by omega
  obtain ⟨a, ha⟩ : ∃ a, a = (m / 600 % 3 == 0) := ⟨_, rfl⟩
  obtain ⟨b, hb⟩ : ∃ b, b = (m / 600 % 3 == 1) := ⟨_, rfl⟩
  have hA : ((m : Int) / 600 % 3 == 0) = a := by rw [ha, Bool.eq_iff_iff, beq_iff_eq, beq_iff_eq]; omega
  have hB : ((m : Int) / 600 % 3 == 1) = b := by rw [hb, Bool.eq_iff_iff, beq_iff_eq, beq_iff_eq]; omega
  have hmb : (m : Int) < 1048576 := by have := Int.emod_lt_of_pos n (show (0 : Int) < 1048576 by decide); omega
  have HF : Hid (madeF m = ⟨false, false, false, false, false, false, a, b, 0, 301⟩) := Lib.hid (by
    have hi : madeI m = 70 := by unfold madeI; rw [if_neg (by omega), if_pos h9, h5]
    unfold madeF
    rw [hi, ← ha, ← hb]
    unfold wayF
    rfl)
  clear ha hb
  go_enter Tryd.func27, Tryd.ntmps27
  go_wp2_with (fail)
  refine (kmod n 1048576 _ hn (by decide)).mono ?_
  rintro e W1 ⟨rfl, h1⟩
  rw [hm]
  have H1 := Lib.hid (And.intro ((Blk.new w 24 #[Value.bool zeroF.last, .bool zeroF.next, .bool zeroF.chain, .bool zeroF.fin, .bool zeroF.forb, .bool zeroF.gone, .bool zeroF.app, .bool zeroF.disc, .int .i64 zeroF.skip, .int .i64 zeroF.red]).call h1) (gr_call (gr_alloc (Below.refl w.heap.size w) (.cells #[Value.bool zeroF.last, .bool zeroF.next, .bool zeroF.chain, .bool zeroF.fin, .bool zeroF.forb, .bool zeroF.gone, .bool zeroF.app, .bool zeroF.disc, .int .i64 zeroF.skip, .int .i64 zeroF.red] 24)) h1))
  clear h1
  have z0 : W1.cell? ⟨w.heap.size, 0, none⟩ = some (.bool false) := H1.out.1.cell' (i := 0) rfl
  have z1 : W1.cell? ⟨w.heap.size, 1, none⟩ = some (.bool false) := H1.out.1.cell' (i := 1) rfl
  have z2 : W1.cell? ⟨w.heap.size, 2, none⟩ = some (.bool false) := H1.out.1.cell' (i := 2) rfl
  have z3 : W1.cell? ⟨w.heap.size, 3, none⟩ = some (.bool false) := H1.out.1.cell' (i := 3) rfl
  have z4 : W1.cell? ⟨w.heap.size, 4, none⟩ = some (.bool false) := H1.out.1.cell' (i := 4) rfl
  have z5 : W1.cell? ⟨w.heap.size, 5, none⟩ = some (.bool false) := H1.out.1.cell' (i := 5) rfl
  have z6 : W1.cell? ⟨w.heap.size, 6, none⟩ = some (.bool false) := H1.out.1.cell' (i := 6) rfl
  have z7 : W1.cell? ⟨w.heap.size, 7, none⟩ = some (.bool false) := H1.out.1.cell' (i := 7) rfl
  have z8 : W1.cell? ⟨w.heap.size, 8, none⟩ = some (.int .i64 0) := H1.out.1.cell' (i := 8) rfl
  have z9 : W1.cell? ⟨w.heap.size, 9, none⟩ = some (.int .i64 0) := H1.out.1.cell' (i := 9) rfl
  have zl := H1.out.1.lt
  have q0 := H1.out.1.frozen 0
  have q1 := H1.out.1.frozen 1
  have q2 := H1.out.1.frozen 2
  have q3 := H1.out.1.frozen 3
  have q4 := H1.out.1.frozen 4
  have q5 := H1.out.1.frozen 5
  have q6 := H1.out.1.frozen 6
  have q7 := H1.out.1.frozen 7
  have q8 := H1.out.1.frozen 8
  have q9 := H1.out.1.frozen 9
  go_wp2_with (fail)
  refine bodyPost_ret (made_res w.heap.size (⟨false, false, false, false, false, false, a, b, 0, 301⟩ : Flg) _ _ rfl (((lay10_same H1.out.1 rfl _ _ _ _ _ _ _ _ _ _).alloc _).alloc _)) rfl ?_
  refine ⟨by rw [HF.out], ?_⟩
  exact gr_alloc (gr_alloc (H1.out.2.trans ((lay10_x (BelowX.refl w.heap.size w.heap.size _) _ _ _ _ _ _ _ _ _ _).below (Nat.le_refl _) (Nat.le_refl _))) _) _

set_option maxRecDepth 100000 in
set_option maxHeartbeats 2000000 in
theorem made7_1 (n : Int) (hn : -9223372036854775808 ≤ n ∧ n ≤ 9223372036854775807) (m : Nat) (hm : n % 1048576 = (m : Int)) (h9 : m % 9 = 7) (h5 : m / 9 % 5 = 1) (w : World) :
    Calls Tryd.prog 27 #[.int .i64 n] w fun e W' => e = .returned (Value.agg #[Value.bool ((madeF m)).last, .bool ((madeF m)).next, .bool ((madeF m)).chain, .bool ((madeF m)).fin, .bool ((madeF m)).forb, .bool ((madeF m)).gone, .bool ((madeF m)).app, .bool ((madeF m)).disc, .int .i64 ((madeF m)).skip, .int .i64 ((madeF m)).red]) ∧ Below w.heap.size w W' := by
  have h9i : (m : Int) % 9 = 7 := by omega
  have h5i : (m : Int) / 9 % 5 = 1 := by omega
  obtain ⟨a, ha⟩ : ∃ a, a = (m / 600 % 3 == 0) := ⟨_, rfl⟩
  obtain ⟨b, hb⟩ : ∃ b, b = (m / 600 % 3 == 1) := ⟨_, rfl⟩
  have hA : ((m : Int) / 600 % 3 == 0) = a := by rw [ha, Bool.eq_iff_iff, beq_iff_eq, beq_iff_eq]; omega
  have hB : ((m : Int) / 600 % 3 == 1) = b := by rw [hb, Bool.eq_iff_iff, beq_iff_eq, beq_iff_eq]; omega
  have hmb : (m : Int) < 1048576 := by have := Int.emod_lt_of_pos n (show (0 : Int) < 1048576 by decide); omega
  have HF : Hid (madeF m = ⟨false, false, false, false, false, false, a, b, 0, 302⟩) := Lib.hid (by
    have hi : madeI m = 71 := by unfold madeI; rw [if_neg (by omega), if_pos h9, h5]
    unfold madeF
    rw [hi, ← ha, ← hb]
    unfold wayF
    rfl)
  clear ha hb
  go_enter Tryd.func27, Tryd.ntmps27
  go_wp2_with (fail)
  refine (kmod n 1048576 _ hn (by decide)).mono ?_
  rintro e W1 ⟨rfl, h1⟩
  rw [hm]
  have H1 := Lib.hid (And.intro ((Blk.new w 24 #[Value.bool zeroF.last, .bool zeroF.next, .bool zeroF.chain, .bool zeroF.fin, .bool zeroF.forb, .bool zeroF.gone, .bool zeroF.app, .bool zeroF.disc, .int .i64 zeroF.skip, .int .i64 zeroF.red]).call h1) (gr_call (gr_alloc (Below.refl w.heap.size w) (.cells #[Value.bool zeroF.last, .bool zeroF.next, .bool zeroF.chain, .bool zeroF.fin, .bool zeroF.forb, .bool zeroF.gone, .bool zeroF.app, .bool zeroF.disc, .int .i64 zeroF.skip, .int .i64 zeroF.red] 24)) h1))
  clear h1
  have z0 : W1.cell? ⟨w.heap.size, 0, none⟩ = some (.bool false) := H1.out.1.cell' (i := 0) rfl
  have z1 : W1.cell? ⟨w.heap.size, 1, none⟩ = some (.bool false) := H1.out.1.cell' (i := 1) rfl
  have z2 : W1.cell? ⟨w.heap.size, 2, none⟩ = some (.bool false) := H1.out.1.cell' (i := 2) rfl
  have z3 : W1.cell? ⟨w.heap.size, 3, none⟩ = some (.bool false) := H1.out.1.cell' (i := 3) rfl
  have z4 : W1.cell? ⟨w.heap.size, 4, none⟩ = some (.bool false) := H1.out.1.cell' (i := 4) rfl
  have z5 : W1.cell? ⟨w.heap.size, 5, none⟩ = some (.bool false) := H1.out.1.cell' (i := 5) rfl
  have z6 : W1.cell? ⟨w.heap.size, 6, none⟩ = some (.bool false) := H1.out.1.cell' (i := 6) rfl
  have z7 : W1.cell? ⟨w.heap.size, 7, none⟩ = some (.bool false) := H1.out.1.cell' (i := 7) rfl
  have z8 : W1.cell? ⟨w.heap.size, 8, none⟩ = some (.int .i64 0) := H1.out.1.cell' (i := 8) rfl
  have z9 : W1.cell? ⟨w.heap.size, 9, none⟩ = some (.int .i64 0) := H1.out.1.cell' (i := 9) rfl
  have zl := H1.out.1.lt
  have q0 := H1.out.1.frozen 0
  have q1 := H1.out.1.frozen 1
  have q2 := H1.out.1.frozen 2
  have q3 := H1.out.1.frozen 3
  have q4 := H1.out.1.frozen 4
  have q5 := H1.out.1.frozen 5
  have q6 := H1.out.1.frozen 6
  have q7 := H1.out.1.frozen 7
  have q8 := H1.out.1.frozen 8
  have q9 := H1.out.1.frozen 9
  go_wp2_with (fail)
  refine bodyPost_ret (made_res w.heap.size (⟨false, false, false, false, false, false, a, b, 0, 302⟩ : Flg) _ _ rfl (((lay10_same H1.out.1 rfl _ _ _ _ _ _ _ _ _ _).alloc _).alloc _)) rfl ?_
  refine ⟨by rw [HF.out], ?_⟩
  exact gr_alloc (gr_alloc (H1.out.2.trans ((lay10_x (BelowX.refl w.heap.size w.heap.size _) _ _ _ _ _ _ _ _ _ _).below (Nat.le_refl _) (Nat.le_refl _))) _) _

set_option maxRecDepth 100000 in
set_option maxHeartbeats 2000000 in
theorem made7_2 (n : Int) (hn : -9223372036854775808 ≤ n ∧ n ≤ 9223372036854775807) (m : Nat) (hm : n % 1048576 = (m : Int)) (h9 : m % 9 = 7) (h5 : m / 9 % 5 = 2) (w : World) :
    Calls Tryd.prog 27 #[.int .i64 n] w fun e W' => e = .returned (Value.agg #[Value.bool ((madeF m)).last, .bool ((madeF m)).next, .bool ((madeF m)).chain, .bool ((madeF m)).fin, .bool ((madeF m)).forb, .bool ((madeF m)).gone, .bool ((madeF m)).app, .bool ((madeF m)).disc, .int .i64 ((madeF m)).skip, .int .i64 ((madeF m)).red]) ∧ Below w.heap.size w W' := by
  have h9i : (m : Int) % 9 = 7 := by omega
  have h5i : (m : Int) / 9 % 5 = 2 := by omega
  obtain ⟨a, ha⟩ : ∃ a, a = (m / 600 % 3 == 0) := ⟨_, rfl⟩
  obtain ⟨b, hb⟩ : ∃ b, b = (m / 600 % 3 == 1) := ⟨_, rfl⟩
  have hA : ((m : Int) / 600 % 3 == 0) = a := by rw [ha, Bool.eq_iff_iff, beq_iff_eq, beq_iff_eq]; omega
  have hB : ((m : Int) / 600 % 3 == 1) = b := by rw [hb, Bool.eq_iff_iff, beq_iff_eq, beq_iff_eq]; omega
  have hmb : (m : Int) < 1048576 := by have := Int.emod_lt_of_pos n (show (0 : Int) < 1048576 by decide); omega
  have HF : Hid (madeF m = ⟨false, false, false, false, false, false, a, b, 0, 303⟩) := Lib.hid (by
    have hi : madeI m = 72 := by unfold madeI; rw [if_neg (by omega), if_pos h9, h5]
    unfold madeF
    rw [hi, ← ha, ← hb]
    unfold wayF
    rfl)
  clear ha hb
  go_enter Tryd.func27, Tryd.ntmps27
  go_wp2_with (fail)
  refine (kmod n 1048576 _ hn (by decide)).mono ?_
  rintro e W1 ⟨rfl, h1⟩
  rw [hm]
  have H1 := Lib.hid (And.intro ((Blk.new w 24 #[Value.bool zeroF.last, .bool zeroF.next, .bool zeroF.chain, .bool zeroF.fin, .bool zeroF.forb, .bool zeroF.gone, .bool zeroF.app, .bool zeroF.disc, .int .i64 zeroF.skip, .int .i64 zeroF.red]).call h1) (gr_call (gr_alloc (Below.refl w.heap.size w) (.cells #[Value.bool zeroF.last, .bool zeroF.next, .bool zeroF.chain, .bool zeroF.fin, .bool zeroF.forb, .bool zeroF.gone, .bool zeroF.app, .bool zeroF.disc, .int .i64 zeroF.skip, .int .i64 zeroF.red] 24)) h1))
  clear h1
  have z0 : W1.cell? ⟨w.heap.size, 0, none⟩ = some (.bool false) := H1.out.1.cell' (i := 0) rfl
  have z1 : W1.cell? ⟨w.heap.size, 1, none⟩ = some (.bool false) := H1.out.1.cell' (i := 1) rfl
  have z2 : W1.cell? ⟨w.heap.size, 2, none⟩ = some (.bool false) := H1.out.1.cell' (i := 2) rfl
  have z3 : W1.cell? ⟨w.heap.size, 3, none⟩ = some (.bool false) := H1.out.1.cell' (i := 3) rfl
  have z4 : W1.cell? ⟨w.heap.size, 4, none⟩ = some (.bool false) := H1.out.1.cell' (i := 4) rfl
  have z5 : W1.cell? ⟨w.heap.size, 5, none⟩ = some (.bool false) := H1.out.1.cell' (i := 5) rfl
  have z6 : W1.cell? ⟨w.heap.size, 6, none⟩ = some (.bool false) := H1.out.1.cell' (i := 6) rfl
  have z7 : W1.cell? ⟨w.heap.size, 7, none⟩ = some (.bool false) := H1.out.1.cell' (i := 7) rfl
  have z8 : W1.cell? ⟨w.heap.size, 8, none⟩ = some (.int .i64 0) := H1.out.1.cell' (i := 8) rfl
  have z9 : W1.cell? ⟨w.heap.size, 9, none⟩ = some (.int .i64 0) := H1.out.1.cell' (i := 9) rfl
  have zl := H1.out.1.lt
  have q0 := H1.out.1.frozen 0
  have q1 := H1.out.1.frozen 1
  have q2 := H1.out.1.frozen 2
  have q3 := H1.out.1.frozen 3
  have q4 := H1.out.1.frozen 4
  have q5 := H1.out.1.frozen 5
  have q6 := H1.out.1.frozen 6
  have q7 := H1.out.1.frozen 7
  have q8 := H1.out.1.frozen 8
  have q9 := H1.out.1.frozen 9
  go_wp2_with (fail)
  refine bodyPost_ret (made_res w.heap.size (⟨false, false, false, false, false, false, a, b, 0, 303⟩ : Flg) _ _ rfl (((lay10_same H1.out.1 rfl _ _ _ _ _ _ _ _ _ _).alloc _).alloc _)) rfl ?_
  refine ⟨by rw [HF.out], ?_⟩
  exact gr_alloc (gr_alloc (H1.out.2.trans ((lay10_x (BelowX.refl w.heap.size w.heap.size _) _ _ _ _ _ _ _ _ _ _).below (Nat.le_refl _) (Nat.le_refl _))) _) _

set_option maxRecDepth 100000 in
set_option maxHeartbeats 2000000 in
theorem made7_3 (n : Int) (hn : -9223372036854775808 ≤ n ∧ n ≤ 9223372036854775807) (m : Nat) (hm : n % 1048576 = (m : Int)) (h9 : m % 9 = 7) (h5 : m / 9 % 5 = 3) (w : World) :
    Calls Tryd.prog 27 #[.int .i64 n] w fun e W' => e = .returned (Value.agg #[Value.bool ((madeF m)).last, .bool ((madeF m)).next, .bool ((madeF m)).chain, .bool ((madeF m)).fin, .bool ((madeF m)).forb, .bool ((madeF m)).gone, .bool ((madeF m)).app, .bool ((madeF m)).disc, .int .i64 ((madeF m)).skip, .int .i64 ((madeF m)).red]) ∧ Below w.heap.size w W' := by
  have h9i : (m : Int) % 9 = 7 := by omega
  have h5i : (m : Int) / 9 % 5 = 3 := by omega
  obtain ⟨a, ha⟩ : ∃ a, a = (m / 600 % 3 == 0) := ⟨_, rfl⟩
  obtain ⟨b, hb⟩ : ∃ b, b = (m / 600 % 3 == 1) := ⟨_, rfl⟩
  have hA : ((m : Int) / 600 % 3 == 0) = a := by rw [ha, Bool.eq_iff_iff, beq_iff_eq, beq_iff_eq]; omega
  have hB : ((m : Int) / 600 % 3 == 1) = b := by rw [hb, Bool.eq_iff_iff, beq_iff_eq, beq_iff_eq]; omega
  have hmb : (m : Int) < 1048576 := by have := Int.emod_lt_of_pos n (show (0 : Int) < 1048576 by decide); omega
  have HF : Hid (madeF m = ⟨false, false, false, false, false, false, a, b, 0, 307⟩) := Lib.hid (by
    have hi : madeI m = 73 := by unfold madeI; rw [if_neg (by omega), if_pos h9, h5]
    unfold madeF
    rw [hi, ← ha, ← hb]
    unfold wayF
    rfl)
  clear ha hb
  go_enter Tryd.func27, Tryd.ntmps27
  go_wp2_with (fail)
  refine (kmod n 1048576 _ hn (by decide)).mono ?_
  rintro e W1 ⟨rfl, h1⟩
  rw [hm]
  have H1 := Lib.hid (And.intro ((Blk.new w 24 #[Value.bool zeroF.last, .bool zeroF.next, .bool zeroF.chain, .bool zeroF.fin, .bool zeroF.forb, .bool zeroF.gone, .bool zeroF.app, .bool zeroF.disc, .int .i64 zeroF.skip, .int .i64 zeroF.red]).call h1) (gr_call (gr_alloc (Below.refl w.heap.size w) (.cells #[Value.bool zeroF.last, .bool zeroF.next, .bool zeroF.chain, .bool zeroF.fin, .bool zeroF.forb, .bool zeroF.gone, .bool zeroF.app, .bool zeroF.disc, .int .i64 zeroF.skip, .int .i64 zeroF.red] 24)) h1))
  clear h1
  have z0 : W1.cell? ⟨w.heap.size, 0, none⟩ = some (.bool false) := H1.out.1.cell' (i := 0) rfl
  have z1 : W1.cell? ⟨w.heap.size, 1, none⟩ = some (.bool false) := H1.out.1.cell' (i := 1) rfl
  have z2 : W1.cell? ⟨w.heap.size, 2, none⟩ = some (.bool false) := H1.out.1.cell' (i := 2) rfl
  have z3 : W1.cell? ⟨w.heap.size, 3, none⟩ = some (.bool false) := H1.out.1.cell' (i := 3) rfl
  have z4 : W1.cell? ⟨w.heap.size, 4, none⟩ = some (.bool false) := H1.out.1.cell' (i := 4) rfl
  have z5 : W1.cell? ⟨w.heap.size, 5, none⟩ = some (.bool false) := H1.out.1.cell' (i := 5) rfl
  have z6 : W1.cell? ⟨w.heap.size, 6, none⟩ = some (.bool false) := H1.out.1.cell' (i := 6) rfl
  have z7 : W1.cell? ⟨w.heap.size, 7, none⟩ = some (.bool false) := H1.out.1.cell' (i := 7) rfl
  have z8 : W1.cell? ⟨w.heap.size, 8, none⟩ = some (.int .i64 0) := H1.out.1.cell' (i := 8) rfl
  have z9 : W1.cell? ⟨w.heap.size, 9, none⟩ = some (.int .i64 0) := H1.out.1.cell' (i := 9) rfl
  have zl := H1.out.1.lt
  have q0 := H1.out.1.frozen 0
  have q1 := H1.out.1.frozen 1
  have q2 := H1.out.1.frozen 2
  have q3 := H1.out.1.frozen 3
  have q4 := H1.out.1.frozen 4
  have q5 := H1.out.1.frozen 5
  have q6 := H1.out.1.frozen 6
  have q7 := H1.out.1.frozen 7
  have q8 := H1.out.1.frozen 8
  have q9 := H1.out.1.frozen 9
  go_wp2_with (fail)
  refine bodyPost_ret (made_res w.heap.size (⟨false, false, false, false, false, false, a, b, 0, 307⟩ : Flg) _ _ rfl (((lay10_same H1.out.1 rfl _ _ _ _ _ _ _ _ _ _).alloc _).alloc _)) rfl ?_
  refine ⟨by rw [HF.out], ?_⟩
  exact gr_alloc (gr_alloc (H1.out.2.trans ((lay10_x (BelowX.refl w.heap.size w.heap.size _) _ _ _ _ _ _ _ _ _ _).below (Nat.le_refl _) (Nat.le_refl _))) _) _

set_option maxRecDepth 100000 in
set_option maxHeartbeats 2000000 in
theorem made7_4 (n : Int) (hn : -9223372036854775808 ≤ n ∧ n ≤ 9223372036854775807) (m : Nat) (hm : n % 1048576 = (m : Int)) (h9 : m % 9 = 7) (h5 : m / 9 % 5 = 4) (w : World) :
    Calls Tryd.prog 27 #[.int .i64 n] w fun e W' => e = .returned (Value.agg #[Value.bool ((madeF m)).last, .bool ((madeF m)).next, .bool ((madeF m)).chain, .bool ((madeF m)).fin, .bool ((madeF m)).forb, .bool ((madeF m)).gone, .bool ((madeF m)).app, .bool ((madeF m)).disc, .int .i64 ((madeF m)).skip, .int .i64 ((madeF m)).red]) ∧ Below w.heap.size w W' := by
  have h9i : (m : Int) % 9 = 7 := by omega
  have h5i : (m : Int) / 9 % 5 = 4 := by omega
  obtain ⟨a, ha⟩ : ∃ a, a = (m / 600 % 3 == 0) := ⟨_, rfl⟩
  obtain ⟨b, hb⟩ : ∃ b, b = (m / 600 % 3 == 1) := ⟨_, rfl⟩
  have hA : ((m : Int) / 600 % 3 == 0) = a := by rw [ha, Bool.eq_iff_iff, beq_iff_eq, beq_iff_eq]; omega
  have hB : ((m : Int) / 600 % 3 == 1) = b := by rw [hb, Bool.eq_iff_iff, beq_iff_eq, beq_iff_eq]; omega
  have hmb : (m : Int) < 1048576 := by have := Int.emod_lt_of_pos n (show (0 : Int) < 1048576 by decide); omega
  have HF : Hid (madeF m = ⟨false, false, false, false, false, false, a, b, 0, 308⟩) := Lib.hid (by
    have hi : madeI m = 74 := by unfold madeI; rw [if_neg (by omega), if_pos h9, h5]
    unfold madeF
    rw [hi, ← ha, ← hb]
    unfold wayF
    rfl)
  clear ha hb
  go_enter Tryd.func27, Tryd.ntmps27
  go_wp2_with (fail)
  refine (kmod n 1048576 _ hn (by decide)).mono ?_
  rintro e W1 ⟨rfl, h1⟩
  rw [hm]
  have H1 := Lib.hid (And.intro ((Blk.new w 24 #[Value.bool zeroF.last, .bool zeroF.next, .bool zeroF.chain, .bool zeroF.fin, .bool zeroF.forb, .bool zeroF.gone, .bool zeroF.app, .bool zeroF.disc, .int .i64 zeroF.skip, .int .i64 zeroF.red]).call h1) (gr_call (gr_alloc (Below.refl w.heap.size w) (.cells #[Value.bool zeroF.last, .bool zeroF.next, .bool zeroF.chain, .bool zeroF.fin, .bool zeroF.forb, .bool zeroF.gone, .bool zeroF.app, .bool zeroF.disc, .int .i64 zeroF.skip, .int .i64 zeroF.red] 24)) h1))
  clear h1
  have z0 : W1.cell? ⟨w.heap.size, 0, none⟩ = some (.bool false) := H1.out.1.cell' (i := 0) rfl
  have z1 : W1.cell? ⟨w.heap.size, 1, none⟩ = some (.bool false) := H1.out.1.cell' (i := 1) rfl
  have z2 : W1.cell? ⟨w.heap.size, 2, none⟩ = some (.bool false) := H1.out.1.cell' (i := 2) rfl
  have z3 : W1.cell? ⟨w.heap.size, 3, none⟩ = some (.bool false) := H1.out.1.cell' (i := 3) rfl
  have z4 : W1.cell? ⟨w.heap.size, 4, none⟩ = some (.bool false) := H1.out.1.cell' (i := 4) rfl
  have z5 : W1.cell? ⟨w.heap.size, 5, none⟩ = some (.bool false) := H1.out.1.cell' (i := 5) rfl
  have z6 : W1.cell? ⟨w.heap.size, 6, none⟩ = some (.bool false) := H1.out.1.cell' (i := 6) rfl
  have z7 : W1.cell? ⟨w.heap.size, 7, none⟩ = some (.bool false) := H1.out.1.cell' (i := 7) rfl
  have z8 : W1.cell? ⟨w.heap.size, 8, none⟩ = some (.int .i64 0) := H1.out.1.cell' (i := 8) rfl
  have z9 : W1.cell? ⟨w.heap.size, 9, none⟩ = some (.int .i64 0) := H1.out.1.cell' (i := 9) rfl
  have zl := H1.out.1.lt
  have q0 := H1.out.1.frozen 0
  have q1 := H1.out.1.frozen 1
  have q2 := H1.out.1.frozen 2
  have q3 := H1.out.1.frozen 3
  have q4 := H1.out.1.frozen 4
  have q5 := H1.out.1.frozen 5
  have q6 := H1.out.1.frozen 6
  have q7 := H1.out.1.frozen 7
  have q8 := H1.out.1.frozen 8
  have q9 := H1.out.1.frozen 9
  go_wp2_with (fail)
  refine bodyPost_ret (made_res w.heap.size (⟨false, false, false, false, false, false, a, b, 0, 308⟩ : Flg) _ _ rfl (((lay10_same H1.out.1 rfl _ _ _ _ _ _ _ _ _ _).alloc _).alloc _)) rfl ?_
  refine ⟨by rw [HF.out], ?_⟩
  exact gr_alloc (gr_alloc (H1.out.2.trans ((lay10_x (BelowX.refl w.heap.size w.heap.size _) _ _ _ _ _ _ _ _ _ _).below (Nat.le_refl _) (Nat.le_refl _))) _) _

theorem lmade (n : Int) (hn : -9223372036854775808 ≤ n ∧ n ≤ 9223372036854775807) (w : World) :
    ∃ i a b, i < 75 ∧ (a = true → b = false) ∧ Calls Tryd.prog 27 #[.int .i64 n] w fun e W' => e = .returned (Value.agg #[Value.bool ((wayF i a b)).last, .bool ((wayF i a b)).next, .bool ((wayF i a b)).chain, .bool ((wayF i a b)).fin, .bool ((wayF i a b)).forb, .bool ((wayF i a b)).gone, .bool ((wayF i a b)).app, .bool ((wayF i a b)).disc, .int .i64 ((wayF i a b)).skip, .int .i64 ((wayF i a b)).red]) ∧ Below w.heap.size w W' := by
  obtain ⟨m, hm⟩ := Int.eq_ofNat_of_zero_le (Int.emod_nonneg n (show (1048576 : Int) ≠ 0 by decide))
  refine ⟨madeI m, (m / 600 % 3 == 0), (m / 600 % 3 == 1), ?_, ?_, ?_⟩
  · unfold madeI
    split
    · omega
    · split
      · omega
      · split <;> omega
  · intro h
    rw [beq_iff_eq] at h
    rw [h]; rfl
  · show Calls _ _ _ _ fun e W' => e = .returned (Value.agg #[Value.bool ((madeF m)).last, .bool ((madeF m)).next, .bool ((madeF m)).chain, .bool ((madeF m)).fin, .bool ((madeF m)).forb, .bool ((madeF m)).gone, .bool ((madeF m)).app, .bool ((madeF m)).disc, .int .i64 ((madeF m)).skip, .int .i64 ((madeF m)).red]) ∧ Below w.heap.size w W'
    have : m % 9 = 0 ∨ m % 9 = 1 ∨ m % 9 = 2 ∨ m % 9 = 3 ∨ m % 9 = 4 ∨ m % 9 = 5 ∨ m % 9 = 6 ∨ m % 9 = 7 ∨ m % 9 = 8 := by omega
    rcases this with h | h | h | h | h | h | h | h | h
    · exact made0 n hn m hm h w
    · exact made1 n hn m hm h w
    · exact made2 n hn m hm h w
    · exact made3 n hn m hm h w
    · exact made4 n hn m hm h w
    · exact made5 n hn m hm h w
    · exact made6 n hn m hm h w
    · have : m / 9 % 5 = 0 ∨ m / 9 % 5 = 1 ∨ m / 9 % 5 = 2 ∨ m / 9 % 5 = 3 ∨ m / 9 % 5 = 4 := by omega
      rcases this with h5 | h5 | h5 | h5 | h5
      · exact made7_0 n hn m hm h h5 w
      · exact made7_1 n hn m hm h h5 w
      · exact made7_2 n hn m hm h h5 w
      · exact made7_3 n hn m hm h h5 w
      · exact made7_4 n hn m hm h h5 w
    · exact made8 n hn m hm h w
end Go.Proofs.YtlipjagdlpkjpaaDoor
