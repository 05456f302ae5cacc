/-
  How a part's number is read, program and reference, walked; no condition.
-/
import Derived.Test.YtlipjagdlpkjpaaDoorFtFn
import Derived.Test.YtlipjagdlpkjpaaDoorRow
import Derived.Test.YtlipjagdlpkjpaaDoorInfo
import Derived.WalkKit
namespace Go.Proofs.YtlipjagdlpkjpaaDoor
open Go.RowKit
set_option linter.unusedVariables false
set_option linter.unusedSimpArgs false

theorem numP_none {s : ByteArray} (h : s.size = 0 ∨ 4 < s.size ∨ (1 < s.size ∧ byS s 0 = 48)) : numP s = -1 := by unfold numP; rw [if_pos h]
theorem numP_bad {s : ByteArray} {k : Nat} (hk : k < s.size) (hb : badD (byS s) k = true) : numP s = -1 := by
  unfold numP
  by_cases h : s.size = 0 ∨ 4 < s.size ∨ (1 < s.size ∧ byS s 0 = 48)
  · rw [if_pos h]
  · rw [if_neg h, if_pos]
    rcases Nat.lt_or_ge (firstN (badD (byS s)) s.size) s.size with h1 | h1
    · exact h1
    · have := firstN_lt (P := badD (byS s)) (n := s.size) (x := k) (by omega)
      rw [hb] at this; cases this
theorem numP_ok {s : ByteArray} (h : ¬ (s.size = 0 ∨ 4 < s.size ∨ (1 < s.size ∧ byS s 0 = 48))) (hg : ∀ x, x < s.size → badD (byS s) x = false) : numP s = (decN (byS s) s.size : Int) := by
  unfold numP
  rw [if_neg h, firstN_none hg, if_neg (by omega)]
def numC (s : ByteArray) : Value := if numP s < 0 then .tuple #[.int .i64 0, .int .i64 3] else .tuple #[.int .i64 (numP s), .int .i64 0]
def numR (s : ByteArray) : Value := if numP s < 0 then .tuple #[.int .i64 0, .bool false] else .tuple #[.int .i64 (numP s), .bool true]
theorem numC_no {s : ByteArray} (h : numP s < 0) : numC s = .tuple #[.int .i64 0, .int .i64 3] := by unfold numC; rw [if_pos h]
theorem numR_no {s : ByteArray} (h : numP s < 0) : numR s = .tuple #[.int .i64 0, .bool false] := by unfold numR; rw [if_pos h]
theorem numC_is {s : ByteArray} (h : ¬ numP s < 0) : numC s = .tuple #[.int .i64 (numP s), .int .i64 0] := by unfold numC; rw [if_neg h]
theorem numR_is {s : ByteArray} (h : ¬ numP s < 0) : numR s = .tuple #[.int .i64 (numP s), .bool true] := by unfold numR; rw [if_neg h]
def NumRel (s : ByteArray) (n k : Value) : Prop := ∃ j : Nat, j ≤ s.size ∧ (∀ x, x < j → badD (byS s) x = false) ∧ k = .int .i64 (j : Int) ∧ n = .int .i64 (decN (byS s) j : Int)

set_option maxRecDepth 100000 in
set_option maxHeartbeats 4000000 in
theorem fnum (s : ByteArray) (hs : s.size ≤ 1000000) (w : World) :
    Calls Tryd.prog 46 #[.string s] w fun e W' => e = .returned (numC s) ∧ w = W' := by
  by_cases h0 : s.size = 0
  · have kk := Lib.hid (numP_none (.inl h0))
    obtain rfl := empty_of_size h0
    go_enter Tryd.func46, Tryd.ntmps46
    go_wp2_with (fail)
    go_ret2
    exact ⟨by rw [numC_no (by rw [kk.out]; decide)] <;> rfl, rfl⟩
  · have hne := nonempty_b s (by omega)
    by_cases h4 : (4 : Int) < (s.size : Int)
    · have kk := Lib.hid (numP_none (s := s) (.inr (.inl (by omega))))
      go_enter Tryd.func46, Tryd.ntmps46
      go_wp2_with (fail)
      go_ret2
      exact ⟨by rw [numC_no (by rw [kk.out]; decide)] <;> rfl, rfl⟩
    · have hps : 0 < s.size := by omega
      obtain ⟨d, hd⟩ : ∃ d, d = byS s 0 := ⟨_, rfl⟩
      have e0 := fun h' => get_byS s 0 h'
      simp only [← hd] at e0
      by_cases h1 : (1 : Int) < (s.size : Int) ∧ d = 48
      · obtain ⟨h1, h48⟩ := h1
        have kk := Lib.hid (numP_none (s := s) (.inr (.inr ⟨by omega, by rw [← hd]; exact h48⟩)))
        have q : ((d : Int) == 48) = true := by simp; omega
        clear hd h48
        go_enter Tryd.func46, Tryd.ntmps46
        go_wp2_with (fail)
        go_ret2
        exact ⟨by rw [numC_no (by rw [kk.out]; decide)] <;> rfl, rfl⟩
      · have hok : ¬ (s.size = 0 ∨ 4 < s.size ∨ (1 < s.size ∧ byS s 0 = 48)) := by rw [← hd]; omega
        have HOK := Lib.hid hok
        have hq : ¬ (1 : Int) < (s.size : Int) ∨ ((d : Int) == 48) = false := by
          by_cases h2 : (1 : Int) < (s.size : Int)
          · right; simp; omega
          · left; exact h2
        clear hok h1 hd
        go_enter Tryd.func46, Tryd.ntmps46
        rcases hq with hq | hq
        all_goals
          have hqi := hq
          (try by_cases hs1 : (1 : Int) < (s.size : Int))
          all_goals
            go_wp2_with (fail)
            clear e0 hq hqi
            go_loop [4, 25] (fun n k => NumRel s n k) (fun _ k => s.size - (intOf k).toNat)
            case atStart => exact ⟨0, by omega, fun x hx => absurd hx (by omega), rfl, rfl⟩
            case round =>
              obtain ⟨j, hj, hg, rfl, rfl⟩ := hrel
              have HG := Lib.hid hg
              by_cases hlt : j < s.size
              · obtain ⟨c, hc⟩ : ∃ c, c = byS s j := ⟨_, rfl⟩
                have e1 := fun h' => get_byS s j h'
                simp only [← hc] at e1
                have hsm : decN (byS s) j < 10000 := decN_small (by omega) hg
                have hc2 : c < 256 := by rw [hc]; exact byS_lt s j
                clear hg
                obtain ⟨m, hm⟩ : ∃ m, m = decN (byS s) j := ⟨_, rfl⟩
                rw [← hm] at hsm ⊢
                have HM := Lib.hid (And.intro hc hm)
                clear hc hm
                by_cases h48 : c < 48
                · have kk := Lib.hid (numP_bad hlt (by unfold badD; rw [← HM.out.1, decide_eq_true h48]; rfl))
                  go_wp2_with (fail)
                  go_ret2
                  exact ⟨by rw [numC_no (by rw [kk.out]; decide)] <;> rfl, rfl⟩
                · by_cases h57 : 57 < c
                  · have kk := Lib.hid (numP_bad hlt (by unfold badD; rw [← HM.out.1, decide_eq_true h57, Bool.or_true]))
                    go_wp2_with (fail)
                    go_ret2
                    exact ⟨by rw [numC_no (by rw [kk.out]; decide)] <;> rfl, rfl⟩
                  · have q2 : IntKind.u8.wrap ((c : Int) - 48) = (c : Int) - 48 := by rw [IntKind.wrap_u8]; omega
                    have nxt : Hid (∀ x, x < j + 1 → badD (byS s) x = false) := Lib.hid (fun x hx => by
                      by_cases e : x = j
                      · rw [e]; unfold badD; rw [← HM.out.1, decide_eq_false h48, decide_eq_false h57]; rfl
                      · exact HG.out x (by omega))
                    have hval : Hid ((decN (byS s) (j + 1) : Int) = 10 * (m : Int) + ((c : Int) - 48)) := Lib.hid (by unfold decN; rw [← HM.out.1, ← HM.out.2]; omega)
                    go_wp2_with (fail)
                    exact ⟨⟨j + 1, by omega, nxt.out, by go_num, by rw [hval.out]⟩, by simp [intOf]; omega⟩
              · obtain rfl : j = s.size := by omega
                have kk := Lib.hid (numP_ok HOK.out hg)
                have kn : ¬ ((decN (byS s) s.size : Int) < 0) := by omega
                clear hg
                go_wp2_with (fail)
                go_ret2
                exact ⟨by rw [numC_is (by rw [kk.out]; omega), kk.out] <;> rfl, rfl⟩

set_option maxRecDepth 100000 in
set_option maxHeartbeats 4000000 in
theorem rnum (s : ByteArray) (hs : s.size ≤ 1000000) (w : World) :
    Calls Tryd.prog 47 #[.string s] w fun e W' => e = .returned (numR s) ∧ w = W' := by
  by_cases h0 : s.size = 0
  · have kk := Lib.hid (numP_none (.inl h0))
    obtain rfl := empty_of_size h0
    go_enter Tryd.func47, Tryd.ntmps47
    go_wp2_with (fail)
    go_ret2
    exact ⟨by rw [numR_no (by rw [kk.out]; decide)] <;> rfl, rfl⟩
  · have hne := nonempty_b s (by omega)
    by_cases h4 : (4 : Int) < (s.size : Int)
    · have kk := Lib.hid (numP_none (s := s) (.inr (.inl (by omega))))
      go_enter Tryd.func47, Tryd.ntmps47
      go_wp2_with (fail)
      go_ret2
      exact ⟨by rw [numR_no (by rw [kk.out]; decide)] <;> rfl, rfl⟩
    · have hps : 0 < s.size := by omega
      obtain ⟨d, hd⟩ : ∃ d, d = byS s 0 := ⟨_, rfl⟩
      have e0 := fun h' => get_byS s 0 h'
      simp only [← hd] at e0
      by_cases h1 : (1 : Int) < (s.size : Int) ∧ d = 48
      · obtain ⟨h1, h48⟩ := h1
        have kk := Lib.hid (numP_none (s := s) (.inr (.inr ⟨by omega, by rw [← hd]; exact h48⟩)))
        have q : ((d : Int) == 48) = true := by simp; omega
        clear hd h48
        go_enter Tryd.func47, Tryd.ntmps47
        go_wp2_with (fail)
        go_ret2
        exact ⟨by rw [numR_no (by rw [kk.out]; decide)] <;> rfl, rfl⟩
      · have hok : ¬ (s.size = 0 ∨ 4 < s.size ∨ (1 < s.size ∧ byS s 0 = 48)) := by rw [← hd]; omega
        have HOK := Lib.hid hok
        have hq : ¬ (1 : Int) < (s.size : Int) ∨ ((d : Int) == 48) = false := by
          by_cases h2 : (1 : Int) < (s.size : Int)
          · right; simp; omega
          · left; exact h2
        clear hok h1 hd
        go_enter Tryd.func47, Tryd.ntmps47
        rcases hq with hq | hq
        all_goals
          have hqi := hq
          (try by_cases hs1 : (1 : Int) < (s.size : Int))
          all_goals
            go_wp2_with (fail)
            clear e0 hq hqi
            go_loop [4, 5] (fun n k => NumRel s n k) (fun _ k => s.size - (intOf k).toNat)
            case atStart => exact ⟨0, by omega, fun x hx => absurd hx (by omega), rfl, rfl⟩
            case round =>
              obtain ⟨j, hj, hg, rfl, rfl⟩ := hrel
              have HG := Lib.hid hg
              by_cases hlt : j < s.size
              · obtain ⟨c, hc⟩ : ∃ c, c = byS s j := ⟨_, rfl⟩
                have e1 := fun h' => get_byS s j h'
                simp only [← hc] at e1
                have hsm : decN (byS s) j < 10000 := decN_small (by omega) hg
                have hc2 : c < 256 := by rw [hc]; exact byS_lt s j
                clear hg
                obtain ⟨m, hm⟩ : ∃ m, m = decN (byS s) j := ⟨_, rfl⟩
                rw [← hm] at hsm ⊢
                have HM := Lib.hid (And.intro hc hm)
                clear hc hm
                by_cases h48 : c < 48
                · have kk := Lib.hid (numP_bad hlt (by unfold badD; rw [← HM.out.1, decide_eq_true h48]; rfl))
                  go_wp2_with (fail)
                  go_ret2
                  exact ⟨by rw [numR_no (by rw [kk.out]; decide)] <;> rfl, rfl⟩
                · by_cases h57 : 57 < c
                  · have kk := Lib.hid (numP_bad hlt (by unfold badD; rw [← HM.out.1, decide_eq_true h57, Bool.or_true]))
                    go_wp2_with (fail)
                    go_ret2
                    exact ⟨by rw [numR_no (by rw [kk.out]; decide)] <;> rfl, rfl⟩
                  · have q2 : IntKind.u8.wrap ((c : Int) - 48) = (c : Int) - 48 := by rw [IntKind.wrap_u8]; omega
                    have nxt : Hid (∀ x, x < j + 1 → badD (byS s) x = false) := Lib.hid (fun x hx => by
                      by_cases e : x = j
                      · rw [e]; unfold badD; rw [← HM.out.1, decide_eq_false h48, decide_eq_false h57]; rfl
                      · exact HG.out x (by omega))
                    have hval : Hid ((decN (byS s) (j + 1) : Int) = 10 * (m : Int) + ((c : Int) - 48)) := Lib.hid (by unfold decN; rw [← HM.out.1, ← HM.out.2]; omega)
                    go_wp2_with (fail)
                    exact ⟨⟨j + 1, by omega, nxt.out, by go_num, by rw [hval.out]⟩, by simp [intOf]; omega⟩
              · obtain rfl : j = s.size := by omega
                have kk := Lib.hid (numP_ok HOK.out hg)
                have kn : ¬ ((decN (byS s) s.size : Int) < 0) := by omega
                clear hg
                go_wp2_with (fail)
                go_ret2
                exact ⟨by rw [numR_is (by rw [kk.out]; omega), kk.out] <;> rfl, rfl⟩
end Go.Proofs.YtlipjagdlpkjpaaDoor
