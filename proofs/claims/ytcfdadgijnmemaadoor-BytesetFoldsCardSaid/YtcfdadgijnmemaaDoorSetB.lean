/-
  byteset and its reference: unions, what sets have in common, complements: as the plain functions say; condition: each list lies in memory.
-/
import Derived.Test.YtcfdadgijnmemaaDoorSetA
namespace Go.Proofs.YtcfdadgijnmemaaDoor
open Go.RowKit
set_option linter.unusedVariables false
set_option linter.unusedSimpArgs false

/-- The cells of sets. -/
def setAt (Z : Nat → Nat → Bool) : Nat → Nat → Value := fun i j => .int .u64 (setW (Z i) j : Int)

theorem u64_bound (p : Nat → Bool) (j : Nat) : setW p j < 18446744073709551616 := setW_lt p j
theorem mix_or (p z : Nat → Bool) (j : Nat) (hj : j < 4) : (setC (mixP j p (orP p z))).setIfInBounds j (.int .u64 (bits .or .u64 (setW p j : Int) (setW z j : Int))) = setC (mixP (j + 1) p (orP p z)) := by
  rw [or_word _ _ (u64_bound p j) (u64_bound z j), ← setW_or]
  exact setC_mix j hj p _
theorem mix_and (p z : Nat → Bool) (j : Nat) (hj : j < 4) : (setC (mixP j p (andP p z))).setIfInBounds j (.int .u64 (bits .and .u64 (setW p j : Int) (setW z j : Int))) = setC (mixP (j + 1) p (andP p z)) := by
  rw [u64_and_nat _ _ (u64_bound p j) (u64_bound z j), ← setW_and]
  exact setC_mix j hj p _

set_option maxRecDepth 100000 in
set_option maxHeartbeats 1000000 in
theorem bunion (A : Option Addr) (n cap : Nat) (Z : Nat → Nat → Bool) (hn : n ≤ 4398046511104) (w : World) (hA : Cells w A 4 n (setAt Z)) :
    Calls Tryd.prog 15 #[.slice A n cap] w fun e w' => e = .returned (Value.agg #[.int .u64 (setW (orL Z n) 0 : Int), .int .u64 (setW (orL Z n) 1 : Int), .int .u64 (setW (orL Z n) 2 : Int), .int .u64 (setW (orL Z n) 3 : Int)]) ∧ Below w.heap.size w w' := by
  have HA := Lib.hid hA
  clear hA
  go_enter Tryd.func15, Tryd.ntmps15
  go_wp2_with (fail)
  go_loopw [9] (fun i wr => ∃ k : Nat, k ≤ n ∧ i = .int .i64 (k : Int) ∧ SetAt w (orL Z k) wr) (fun i _ => n - (intOf i).toNat)
  case atStart => exact ⟨0, Nat.zero_le _, rfl, SetAt.start w⟩
  case round =>
    obtain ⟨k, hk, rfl, hat⟩ := hrel
    by_cases hlt : k < n
    · obtain ⟨ab, ao, rfl, had, hcl⟩ := (HA.out.below hat.2.2) (by omega)
      have c0 : wr.cell? ⟨ab, ao + k * 4, none⟩ = some (.int .u64 (setW (Z k) 0 : Int)) := hcl k 0 hlt (by decide)
      have c1 : wr.cell? ⟨ab, ao + k * 4 + 1, none⟩ = some (.int .u64 (setW (Z k) 1 : Int)) := hcl k 1 hlt (by decide)
      have c2 : wr.cell? ⟨ab, ao + k * 4 + 2, none⟩ = some (.int .u64 (setW (Z k) 2 : Int)) := hcl k 2 hlt (by decide)
      have c3 : wr.cell? ⟨ab, ao + k * 4 + 3, none⟩ = some (.int .u64 (setW (Z k) 3 : Int)) := hcl k 3 hlt (by decide)
      clear hcl
      have hin : SetAt w (mixP 0 (orL Z k) (orP (orL Z k) (Z k))) wr := hat.same (setC_mix0 _ _).symm
      have HIN := Lib.hid hin
      obtain ⟨X, hX⟩ : ∃ X, X = wr.heap.size := ⟨_, rfl⟩
      have HX := Lib.hid hX
      have hX1 : w.heap.size + 1 < X := by have := hat.1.lt; omega
      clear hat hin hX
      go_wp2_with (fail)
      rw [← HX.out]
      go_loopw [13] (fun i wx => ∃ j : Nat, j ≤ 4 ∧ i = .int .i64 (j : Int) ∧ SetAt w (mixP j (orL Z k) (orP (orL Z k) (Z k))) wx ∧ Blk wx X 28 #[Value.int .u64 (setW (Z k) 0 : Int), .int .u64 (setW (Z k) 1 : Int), .int .u64 (setW (Z k) 2 : Int), .int .u64 (setW (Z k) 3 : Int)]) (fun i _ => 4 - (intOf i).toNat)
      case atStart => exact ⟨0, by omega, rfl, HIN.out.alloc _, by rw [HX.out]; exact Blk.new _ _ _⟩
      case round =>
        obtain ⟨j, hj, rfl, hin, hblk⟩ := hrel
        by_cases hj4 : j < 4
        · have d0 := hin.1.cell' (i := j) (setC_get _ j hj4)
          rw [mixP_at] at d0
          have d1 := hblk.cell' (i := j) (setC_get _ j hj4)
          have df := hin.1.frozen j
          have H := Lib.hid (And.intro hin hblk)
          clear hin hblk
          go_wp2_with (fail)
          go_region
          all_goals go_wp2
          exact ⟨⟨j + 1, by omega, by go_num, (H.out.1.set_ (mix_or _ _ _ hj4)).drew, (H.out.2.far (by simp; omega) _).drew⟩, by simp [intOf]; omega⟩
        · obtain rfl : j = 4 := by omega
          have H := Lib.hid hin
          clear hin
          go_wp2_with (fail)
          exact ⟨⟨k + 1, by omega, by go_num, H.out.same (setC_mix4 _ _)⟩, by simp [intOf]; omega⟩
    · obtain rfl : k = n := by omega
      have a0 := hat.1.cell' (i := 0) rfl
      have a1 := hat.1.cell' (i := 1) rfl
      have a2 := hat.1.cell' (i := 2) rfl
      have a3 := hat.1.cell' (i := 3) rfl
      have b0 := hat.2.1.cell' (i := 0) rfl
      have b1 := hat.2.1.cell' (i := 1) rfl
      have b2 := hat.2.1.cell' (i := 2) rfl
      have b3 := hat.2.1.cell' (i := 3) rfl
      have f0 := hat.2.1.frozen 0
      have f1 := hat.2.1.frozen 1
      have f2 := hat.2.1.frozen 2
      have f3 := hat.2.1.frozen 3
      have HB := Lib.hid hat.2.2
      have hsz := hat.1.lt
      clear hat
      go_wp2
      refine bodyPost_ret (v := Value.agg #[.int .u64 (setW (orL Z k) 0 : Int), .int .u64 (setW (orL Z k) 1 : Int), .int .u64 (setW (orL Z k) 2 : Int), .int .u64 (setW (orL Z k) 3 : Int)]) (by simp [results, Tryd.results15, go_sem, b0, b1, b2, b3]) rfl ⟨rfl, ?_⟩
      exact gr_set (gr_set (gr_set (gr_set HB.out (by simp) _) (by simp) _) (by simp) _) (by simp) _

set_option maxRecDepth 100000 in
set_option maxHeartbeats 1000000 in
theorem runion (A : Option Addr) (n cap : Nat) (Z : Nat → Nat → Bool) (hn : n ≤ 4398046511104) (w : World) (hA : Cells w A 4 n (setAt Z)) :
    Calls Tryd.prog 16 #[.slice A n cap] w fun e w' => e = .returned (Value.agg #[.int .u64 (setW (orL Z n) 0 : Int), .int .u64 (setW (orL Z n) 1 : Int), .int .u64 (setW (orL Z n) 2 : Int), .int .u64 (setW (orL Z n) 3 : Int)]) ∧ Below w.heap.size w w' := by
  have HA := Lib.hid hA
  clear hA
  go_enter Tryd.func16, Tryd.ntmps16
  go_wp2_with (fail)
  go_loopw [4] (fun i wr => ∃ k : Nat, k ≤ n ∧ i = .int .i64 (k : Int) ∧ SetAt w (orL Z k) wr) (fun i _ => n - (intOf i).toNat)
  case atStart => exact ⟨0, Nat.zero_le _, rfl, SetAt.start w⟩
  case round =>
    obtain ⟨k, hk, rfl, hat⟩ := hrel
    by_cases hlt : k < n
    · obtain ⟨ab, ao, rfl, had, hcl⟩ := (HA.out.below hat.2.2) (by omega)
      have c0 : wr.cell? ⟨ab, ao + k * 4, none⟩ = some (.int .u64 (setW (Z k) 0 : Int)) := hcl k 0 hlt (by decide)
      have c1 : wr.cell? ⟨ab, ao + k * 4 + 1, none⟩ = some (.int .u64 (setW (Z k) 1 : Int)) := hcl k 1 hlt (by decide)
      have c2 : wr.cell? ⟨ab, ao + k * 4 + 2, none⟩ = some (.int .u64 (setW (Z k) 2 : Int)) := hcl k 2 hlt (by decide)
      have c3 : wr.cell? ⟨ab, ao + k * 4 + 3, none⟩ = some (.int .u64 (setW (Z k) 3 : Int)) := hcl k 3 hlt (by decide)
      clear hcl
      have hin : SetAt w (mixP 0 (orL Z k) (orP (orL Z k) (Z k))) wr := hat.same (setC_mix0 _ _).symm
      have HIN := Lib.hid hin
      clear hat hin c0 c1 c2 c3 had
      go_wp2_with (fail)
      go_loopw [5] (fun i wx => ∃ j : Nat, j ≤ 4 ∧ i = .int .i64 (j : Int) ∧ SetAt w (mixP j (orL Z k) (orP (orL Z k) (Z k))) wx) (fun i _ => 4 - (intOf i).toNat)
      case atStart => exact ⟨0, by omega, rfl, HIN.out⟩
      case round =>
        obtain ⟨j, hj, rfl, hin⟩ := hrel
        by_cases hj4 : j < 4
        · have d0 := hin.1.cell' (i := j) (setC_get _ j hj4)
          rw [mixP_at] at d0
          obtain ⟨_, _, ea, had, hcl⟩ := (HA.out.below hin.2.2) (by omega)
          cases ea
          have d1 : wr.cell? ⟨ab, ao + k * 4 + j, none⟩ = some (.int .u64 (setW (Z k) j : Int)) := hcl k j hlt hj4
          clear hcl
          have df := hin.1.frozen j
          have H := Lib.hid hin
          clear hin
          go_wp2_with (fail)
          go_region
          all_goals go_wp2
          exact ⟨⟨j + 1, by omega, by go_num, (H.out.set_ (mix_or _ _ _ hj4)).drew⟩, by simp [intOf]; omega⟩
        · obtain rfl : j = 4 := by omega
          have H := Lib.hid hin
          clear hin
          go_wp2_with (fail)
          exact ⟨⟨k + 1, by omega, by go_num, H.out.same (setC_mix4 _ _)⟩, by simp [intOf]; omega⟩
    · obtain rfl : k = n := by omega
      have a0 := hat.1.cell' (i := 0) rfl
      have a1 := hat.1.cell' (i := 1) rfl
      have a2 := hat.1.cell' (i := 2) rfl
      have a3 := hat.1.cell' (i := 3) rfl
      have b0 := hat.2.1.cell' (i := 0) rfl
      have b1 := hat.2.1.cell' (i := 1) rfl
      have b2 := hat.2.1.cell' (i := 2) rfl
      have b3 := hat.2.1.cell' (i := 3) rfl
      have f0 := hat.2.1.frozen 0
      have f1 := hat.2.1.frozen 1
      have f2 := hat.2.1.frozen 2
      have f3 := hat.2.1.frozen 3
      have HB := Lib.hid hat.2.2
      have hsz := hat.1.lt
      clear hat
      go_wp2
      refine bodyPost_ret (v := Value.agg #[.int .u64 (setW (orL Z k) 0 : Int), .int .u64 (setW (orL Z k) 1 : Int), .int .u64 (setW (orL Z k) 2 : Int), .int .u64 (setW (orL Z k) 3 : Int)]) (by simp [results, Tryd.results16, go_sem, b0, b1, b2, b3]) rfl ⟨rfl, ?_⟩
      exact gr_set (gr_set (gr_set (gr_set HB.out (by simp) _) (by simp) _) (by simp) _) (by simp) _
end Go.Proofs.YtcfdadgijnmemaaDoor
