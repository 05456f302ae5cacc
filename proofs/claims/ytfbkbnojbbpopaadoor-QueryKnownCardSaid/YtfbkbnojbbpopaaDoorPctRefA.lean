/-
  The reference of percent, first part: value, escape, step, Decode; condition: strings of at most 1000000000 bytes.
-/
import Derived.Test.YtfbkbnojbbpopaaDoorPctD
import Derived.Test.YtfbkbnojbbpopaaDoorSetHas
import Derived.Deep.RegionWith
import Derived.StillTailTactics
namespace Go.Proofs.YtfbkbnojbbpopaaDoor
open Go.RowKit
set_option linter.unusedVariables false
set_option linter.unusedSimpArgs false

set_option maxRecDepth 100000 in
set_option maxHeartbeats 400000 in
theorem rvalue (c : UInt8) (w : World) :
    Calls Tryd.prog 62 #[.int .u8 (c.toNat : Int)] w fun e w' => e = .returned (.int .i64 (hexv c)) ∧ w = w' := by
  have hc : (c.toNat : Int) < 256 := u8_bound c
  have hc0 : 0 ≤ (c.toNat : Int) := by omega
  go_enter Tryd.func62, Tryd.ntmps62
  go_wp2
  all_goals go_ret
  all_goals refine ⟨ret_int ?_, rfl⟩
  all_goals (unfold hexv; repeat (first | rw [if_pos (by omega)] | rw [if_neg (by omega)]))
  all_goals omega

theorem three_at (s : ByteArray) (i : Nat) (a b c : UInt8) (u : List UInt8) (hl : s.data.toList.drop i = a :: b :: c :: u) : ∃ h3 : i + 3 ≤ s.size, s[i] = a ∧ s[i + 1] = b ∧ s[i + 2] = c := by
  have h3 : i + 3 ≤ s.size := by
    have := congrArg List.length hl
    simp only [List.length_drop, size_data, List.length_cons] at this
    omega
  have hd := drop_at s i (by omega)
  rw [drop_at s (i + 1) (by omega), drop_at s (i + 1 + 1) (by omega), hl] at hd
  obtain ⟨e0, hd⟩ := List.cons.inj hd
  obtain ⟨e1, hd⟩ := List.cons.inj hd
  obtain ⟨e2, hd⟩ := List.cons.inj hd
  exact ⟨h3, e0.symm, e1.symm, e2.symm⟩

set_option maxRecDepth 100000 in
set_option maxHeartbeats 1000000 in
theorem rescape_yes (s : ByteArray) (i : Nat) (b c : UInt8) (u : List UInt8) (w : World) (hs : s.size ≤ 1000000000) (hl : s.data.toList.drop i = 37 :: b :: c :: u) (hb : 0 ≤ hexv b) (hc : 0 ≤ hexv c) :
    Calls Tryd.prog 61 #[.string s, .int .i64 (i : Int)] w fun e w' => e = .returned (.bool true) ∧ w = w' := by
  obtain ⟨h3, e0, e1, e2⟩ := three_at s i _ _ _ _ hl
  have hi2 : (i : Int) + 2 < s.size := by omega
  have hi1 : (i : Int) + 1 < s.size := by omega
  have hi0 : (0 : Int) ≤ i := by omega
  have hin : i < s.size := by omega
  clear hl
  go_enter Tryd.func61, Tryd.ntmps61
  go_wp2_with (go_at_call 62; refine (rvalue _ _).mono ?_; rintro e w' ⟨rfl, rfl⟩)
  go_ret
  exact ⟨rfl, rfl⟩

theorem escape_ways (s : ByteArray) (i : Nat) (h : escL (s.data.toList.drop i) = false) : s.size < i + 3 ∨ (∃ h3 : i + 3 ≤ s.size, s[i] ≠ 37) ∨ (∃ h3 : i + 3 ≤ s.size, s[i] = 37 ∧ hexv s[i + 1] < 0) ∨ (∃ h3 : i + 3 ≤ s.size, s[i] = 37 ∧ 0 ≤ hexv s[i + 1] ∧ hexv s[i + 2] < 0) := by
  by_cases h3 : s.size < i + 3
  · exact .inl h3
  · rw [drop_at s i (by omega), drop_at s (i + 1) (by omega), drop_at s (i + 1 + 1) (by omega), escL_three] at h
    have h3' : i + 3 ≤ s.size := by omega
    by_cases a : s[i] = 37
    · by_cases b : 0 ≤ hexv s[i + 1]
      · by_cases c : 0 ≤ hexv s[i + 2]
        · have c' : 0 ≤ hexv (s[i + 1 + 1]'(by omega)) := c
          simp [a, b, c'] at h
        · exact .inr (.inr (.inr ⟨h3', a, b, by omega⟩))
      · exact .inr (.inr (.inl ⟨h3', a, by omega⟩))
    · exact .inr (.inl ⟨h3', a⟩)

set_option maxRecDepth 100000 in
set_option maxHeartbeats 1000000 in
theorem rescape_no (s : ByteArray) (i : Nat) (w : World) (hs : s.size ≤ 1000000000) (hi : i ≤ s.size) (he : escL (s.data.toList.drop i) = false) :
    Calls Tryd.prog 61 #[.string s, .int .i64 (i : Int)] w fun e w' => e = .returned (.bool false) ∧ w = w' := by
  have hw := escape_ways s i he
  have hi0 : (0 : Int) ≤ i := by omega
  clear he
  rcases hw with h | ⟨h3, h⟩ | ⟨h3, h, h1⟩ | ⟨h3, h, h1, h2⟩
  · have h' : (s.size : Int) ≤ (i : Int) + 2 := by omega
    go_enter Tryd.func61, Tryd.ntmps61
    go_wp2_with (fail)
    go_ret
    exact ⟨rfl, rfl⟩
  all_goals
    have hi2 : (i : Int) + 2 < s.size := by omega
    have hi1 : (i : Int) + 1 < s.size := by omega
    have hin : i < s.size := by omega
  · have h' : ((s[i].toNat : Int) == 37) = false := by simpa using fun e => h (u8_ext (by simpa using e))
    clear h
    go_enter Tryd.func61, Tryd.ntmps61
    go_wp2_with (go_at_call 62; refine (rvalue _ _).mono ?_; rintro e w' ⟨rfl, rfl⟩)
    go_ret
    exact ⟨rfl, rfl⟩
  · go_enter Tryd.func61, Tryd.ntmps61
    go_wp2_with (go_at_call 62; refine (rvalue _ _).mono ?_; rintro e w' ⟨rfl, rfl⟩)
    go_ret
    exact ⟨rfl, rfl⟩
  · go_enter Tryd.func61, Tryd.ntmps61
    go_wp2_with (go_at_call 62; refine (rvalue _ _).mono ?_; rintro e w' ⟨rfl, rfl⟩)
    go_ret
    exact ⟨ret_bool (by simpa using h2), rfl⟩

set_option maxRecDepth 100000 in
set_option maxHeartbeats 400000 in
theorem rstep_yes (s : ByteArray) (i : Nat) (b c : UInt8) (u : List UInt8) (w : World) (hs : s.size ≤ 1000000000) (hl : s.data.toList.drop i = 37 :: b :: c :: u) (hb : 0 ≤ hexv b) (hc : 0 ≤ hexv c) :
    Calls Tryd.prog 60 #[.string s, .int .i64 (i : Int)] w fun e w' => e = .returned (.int .i64 3) ∧ w = w' := by
  have H := Lib.hid (And.intro hl (And.intro hb hc))
  clear hl hb hc
  go_enter Tryd.func60, Tryd.ntmps60
  go_wp2_with (go_at_call 61; refine (rescape_yes s i b c u _ hs H.out.1 H.out.2.1 H.out.2.2).mono ?_; rintro e w' ⟨rfl, rfl⟩)
  go_ret
  exact ⟨rfl, rfl⟩
set_option maxRecDepth 100000 in
set_option maxHeartbeats 400000 in
theorem rstep_no (s : ByteArray) (i : Nat) (w : World) (hs : s.size ≤ 1000000000) (hi : i ≤ s.size) (he : escL (s.data.toList.drop i) = false) :
    Calls Tryd.prog 60 #[.string s, .int .i64 (i : Int)] w fun e w' => e = .returned (.int .i64 1) ∧ w = w' := by
  have H := Lib.hid he
  clear he
  go_enter Tryd.func60, Tryd.ntmps60
  go_wp2_with (go_at_call 61; refine (rescape_no s i _ hs hi H.out).mono ?_; rintro e w' ⟨rfl, rfl⟩)
  go_ret
  exact ⟨rfl, rfl⟩
end Go.Proofs.YtfbkbnojbbpopaaDoor
