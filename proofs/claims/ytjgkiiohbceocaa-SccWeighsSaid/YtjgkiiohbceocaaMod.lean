/-
  waypostkit.Mod: the remainder that is not negative.
-/
import Derived.Test.YtjgkiiohbceocaaProg
import Derived.Test.YtjgkiiohbceocaaBase
namespace Go.Proofs.Ytjgkiiohbceocaa
open Go.RowKit
set_option linter.unusedVariables false
set_option linter.unusedSimpArgs false

theorem mod_cases (a m : Int) (hm : 1 ≤ m) : a.tmod m = a % m ∨ a.tmod m = a % m - m := by
  rw [Int.tmod_eq_emod]
  split
  · left; omega
  · right; omega
theorem mod_pos (a m : Int) (hm : 1 ≤ m) (h : 0 ≤ a.tmod m) : a.tmod m = a % m := by
  have b2 := Int.emod_lt_of_pos a (show 0 < m by omega)
  rcases mod_cases a m hm with e | e <;> omega
theorem mod_neg (a m : Int) (hm : 1 ≤ m) (h : a.tmod m < 0) : a.tmod m + m = a % m := by
  have b1 := Int.emod_nonneg a (show m ≠ 0 by omega)
  rcases mod_cases a m hm with e | e <;> omega

set_option maxRecDepth 100000 in
theorem kmod (a m : Int) (w : World) (ha : -9223372036854775808 ≤ a ∧ a ≤ 9223372036854775807) (hm : 1 ≤ m ∧ m ≤ 9223372036854775807) :
    Calls Try.prog 39 #[.int .i64 a, .int .i64 m] w fun e w' => e = .returned (.int .i64 (a % m)) ∧ Below w.heap.size w w' := by
  obtain ⟨a0, a1⟩ := ha
  obtain ⟨m0, m1⟩ := hm
  go_enter Try.func39, Try.ntmps39
  go_wp2_with (fail)
  · rename_i hneg
    go_ret
    refine ⟨ret_int ?_, Below.refl _ _⟩
    have e := mod_neg a m (by omega) (by omega)
    rw [e]
    have b1 := Int.emod_nonneg a (show m ≠ 0 by omega)
    have b2 := Int.emod_lt_of_pos a (show 0 < m by omega)
    unfold wrap64; omega
  · rename_i hpos
    go_ret
    exact ⟨ret_int (mod_pos a m (by omega) (by omega)), Below.refl _ _⟩
end Go.Proofs.Ytjgkiiohbceocaa
