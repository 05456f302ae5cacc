/-
  The document's token test, parts, length and target, walked; no condition.
-/
import Derived.Test.YtllhcfgddcjfkaaDoorRlX
namespace Go.Proofs.YtllhcfgddcjfkaaDoor
open Go.RowKit
set_option linter.unusedVariables false
set_option linter.unusedSimpArgs false

def othL (k : Nat) : Nat := [33, 35, 36, 37, 38, 39, 42, 43, 45, 46, 94, 95, 96, 124, 126].getD k 0
theorem oth_get : ∀ k : Nat, k < 15 → ∀ h' : k < ({ data := #[33, 35, 36, 37, 38, 39, 42, 43, 45, 46, 94, 95, 96, 124, 126] } : ByteArray).size, (({ data := #[33, 35, 36, 37, 38, 39, 42, 43, 45, 46, 94, 95, 96, 124, 126] } : ByteArray)[k]'h').toNat = othL k := by decide +kernel
/-- A token's byte is a digit, a letter or one of the others. -/
theorem oth_has (c : Nat) : c ∈ [33, 35, 36, 37, 38, 39, 42, 43, 45, 46, 94, 95, 96, 124, 126] ↔ ∃ k, k < 15 ∧ othL k = c := by
  constructor
  · intro h
    obtain ⟨i, hi, e⟩ := List.getElem_of_mem h
    refine ⟨i, hi, ?_⟩
    unfold othL
    rw [List.getD_eq_getElem?_getD, List.getElem?_eq_getElem hi, ← e]
    rfl
  · rintro ⟨k, hk, rfl⟩
    unfold othL
    rw [List.getD_eq_getElem?_getD, List.getElem?_eq_getElem hk]
    exact List.getElem_mem hk
theorem tokB_r {c : Nat} (h : (48 ≤ c ∧ c ≤ 57) ∨ (97 ≤ c ∧ c ≤ 122) ∨ (65 ≤ c ∧ c ≤ 90)) : tokB c = true := by
  unfold tokB
  rcases h with h | h | h
  · rw [decide_eq_true h]; rfl
  · rw [decide_eq_true h]; simp
  · rw [decide_eq_true h]; simp
theorem tokB_k {k : Nat} (h : k < 15) : tokB (othL k) = true := by
  unfold tokB
  rw [decide_eq_true ((oth_has _).2 ⟨k, h, rfl⟩)]; simp
theorem tokB_no {c : Nat} (h1 : ¬ (48 ≤ c ∧ c ≤ 57)) (h2 : ¬ (97 ≤ c ∧ c ≤ 122)) (h3 : ¬ (65 ≤ c ∧ c ≤ 90)) (h4 : ∀ k, k < 15 → othL k ≠ c) : tokB c = false := by
  unfold tokB
  rw [decide_eq_false h1, decide_eq_false h2, decide_eq_false h3, decide_eq_false (fun h => by obtain ⟨k, hk, e⟩ := (oth_has c).1 h; exact h4 k hk e)]
  rfl

set_option maxRecDepth 100000 in
set_option maxHeartbeats 4000000 in
theorem rof (c : Nat) (hc : c < 256) (w : World) : Calls Tryd.prog 42 #[.int .u8 (c : Int)] w fun e W' => e = .returned (.bool (tokB c)) ∧ w = W' := by
  have hc1 : (c : Int) < 256 := by omega
  have hc0 : 0 ≤ (c : Int) := by omega
  by_cases hr : (48 ≤ c ∧ c ≤ 57) ∨ (97 ≤ c ∧ c ≤ 122) ∨ (65 ≤ c ∧ c ≤ 90)
  · have k := Lib.hid (tokB_r hr)
    rw [k.out]
    by_cases h1 : (48 ≤ c ∧ c ≤ 57)
    · obtain ⟨h1, h2⟩ := h1
      clear hr
      go_enter Tryd.func42, Tryd.ntmps42
      go_wp2_with (fail)
      go_ret
      exact ⟨rfl, rfl⟩
    · by_cases h2 : (97 ≤ c ∧ c ≤ 122)
      · obtain ⟨h2, h3⟩ := h2
        clear hr h1
        go_enter Tryd.func42, Tryd.ntmps42
        go_wp2_with (fail)
        go_ret
        exact ⟨rfl, rfl⟩
      · obtain ⟨h4, h5⟩ : 65 ≤ c ∧ c ≤ 90 := by omega
        clear hr h1 h2
        go_enter Tryd.func42, Tryd.ntmps42
        go_wp2_with (fail)
        go_ret
        exact ⟨rfl, rfl⟩
  · have hrr := Lib.hid hr
    have hp : ∀ P : Prop, (P ↔ c < 48 ∨ (57 < c ∧ c < 65) ∨ (90 < c ∧ c < 97) ∨ 122 < c) → P := fun P h => h.2 (by omega)
    obtain hq := hp _ Iff.rfl
    clear hp hr
    have fin : Hid ((∀ k, k < 15 → othL k ≠ c) → tokB c = false) := Lib.hid (fun h => tokB_no (fun h' => hrr.out (.inl h')) (fun h' => hrr.out (.inr (.inl h'))) (fun h' => hrr.out (.inr (.inr h'))) h)
    clear hrr
    rcases hq with hq | ⟨hq, hq2⟩ | ⟨hq, hq2⟩ | hq
    all_goals
      go_enter Tryd.func42, Tryd.ntmps42
      go_wp2_with (fail)
      go_loop [3] (fun i => ∃ k : Nat, k ≤ 15 ∧ i = .int .i64 (k : Int) ∧ (∀ j, j < k → othL j ≠ c)) (fun i => 15 - (intOf i).toNat)
      case atStart => exact ⟨0, by omega, rfl, fun j hj => absurd hj (by omega)⟩
      case round =>
        obtain ⟨k, hk, rfl, hne⟩ := hrel
        have HH := Lib.hid hne
        clear hne
        by_cases hlt : k < 15
        · obtain ⟨d, hd⟩ : ∃ d, d = othL k := ⟨_, rfl⟩
          have e1 := fun h' => oth_get k hlt h'
          simp only [← hd] at e1
          by_cases hm : d = c
          · have q1 : ((d : Int) == (c : Int)) = true := by simp; omega
            have kk : Hid (tokB c = true) := Lib.hid (by rw [← hm, hd]; exact tokB_k hlt)
            clear hm hd
            go_wp2_with (fail)
            go_ret
            exact ⟨by rw [kk.out] <;> rfl, rfl⟩
          · have q1 : ((d : Int) == (c : Int)) = false := by simp; omega
            have nxt : Hid (∀ j : Nat, j < k + 1 → othL j ≠ c) := Lib.hid (fun j hj => by
              by_cases e : j = k
              · rw [e, ← hd]; exact hm
              · exact HH.out j (by omega))
            clear hm hd
            go_wp2_with (fail)
            exact ⟨⟨k + 1, by omega, by go_num, nxt.out⟩, by simp [intOf]; omega⟩
        · obtain rfl : k = 15 := by omega
          have kk := Lib.hid (fin.out HH.out)
          go_wp2_with (fail)
          go_ret
          exact ⟨by rw [kk.out] <;> rfl, rfl⟩
end Go.Proofs.YtllhcfgddcjfkaaDoor
