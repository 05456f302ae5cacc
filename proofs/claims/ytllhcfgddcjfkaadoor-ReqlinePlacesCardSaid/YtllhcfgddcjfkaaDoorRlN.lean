/-
  ReqlineLong, walked: it returns true, whatever the input; condition: a variable of the library is an int.
-/
import Derived.Test.YtllhcfgddcjfkaaDoorRlK
namespace Go.Proofs.YtllhcfgddcjfkaaDoor
open Go.RowKit
set_option linter.unusedVariables false
set_option linter.unusedSimpArgs false

theorem cat_size (s m : ByteArray) : (s ++ m).size = s.size + m.size := ByteArray.size_append
theorem cat_long {s m : ByteArray} (h : longS (byS s) s.size ≠ 0) : longS (byS (s ++ m)) (s ++ m).size = longS (byS s) s.size ∧ longP (byS (s ++ m)) (s ++ m).size = longP (byS s) s.size := by
  have hc := longS_congr (G := byS (s ++ m)) (H := byS s) (n := s.size) (fun x hx => byS_left hx)
  rw [← hc.1, ← hc.2]
  exact long_more (by rw [cat_size]; omega) (by rw [hc.1]; exact h)
theorem head_long {s : ByteArray} {j : Nat} (hj : j ≤ s.size) (h : longS (byS s) s.size = 0) : longS (byS (s.extract 0 j)) (s.extract 0 j).size = 0 ∧ longP (byS (s.extract 0 j)) (s.extract 0 j).size = j := by
  have hc := longS_congr (G := byS (s.extract 0 j)) (H := byS s) (n := j) (fun x hx => byS_head hj hx)
  rw [head_size hj, hc.1, hc.2]
  exact long_less hj h
theorem long_at {s : ByteArray} (h : longS (byS s) s.size ≠ 0) : longP (byS s) s.size < s.size := by
  rcases longS_cases (byS s) s.size with ⟨h1, _⟩ | ⟨_, h2⟩ | ⟨_, h2⟩
  · exact absurd h1 h
  · exact h2
  · exact h2

set_option maxRecDepth 100000 in
set_option maxHeartbeats 8000000 in
theorem long_cut (s m : ByteArray) (j : Nat) (k : Int) (hk : max 0 (min k (s.size : Int)) = (j : Int)) (hj : j ≤ s.size) (hh : ¬ (2000 : Int) < (s.size : Int)) (h100 : ¬ (100 : Int) < (m.size : Int)) (hL0 : longS (byS s) s.size = 0) (hkb : -9223372036854775808 ≤ k ∧ k ≤ 9223372036854775807) (w : World) (hm : MaxOk w) :
    Calls Tryd.prog 5 #[.string s, .string m, .int .i64 k] w fun e W' => e = .returned (.bool true) ∧ Below w.heap.size w W' := by
  have HM := Lib.hid hm
  have HL := Lib.hid hL0
  have hP0 : longP (byS s) s.size = s.size := by
    rcases longS_cases (byS s) s.size with ⟨_, h2, _⟩ | ⟨h1, _⟩ | ⟨h1, _⟩
    · exact h2
    · rw [hL0] at h1; cases h1
    · rw [hL0] at h1; cases h1
  have HP := Lib.hid hP0
  have hz : s.size ≤ 1000000 := by omega
  have HH := Lib.hid (head_long hj hL0)
  have hsz := head_size hj
  have HS := Lib.hid hsz
  clear hm hL0 hP0 hsz
  go_enter Tryd.func5, Tryd.ntmps5
  go_wp2_with (fail)
  refine (bheavy s (by omega) _).mono ?_
  rintro e W0 ⟨rfl, rfl⟩
  rw [decide_eq_false (show ¬ (2000 : Int) < (s.size : Int) by omega)]
  go_wp2_with (fail)
  refine (blong s hz _ HM.out).mono ?_
  rintro e W1 ⟨rfl, h1⟩
  rw [HL.out, HP.out]
  have H1 := Lib.hid h1
  clear h1
  go_wp2_with (fail)
  refine (blong _ (by rw [HS.out]; omega) _ (HM.out.below H1.out)).mono ?_
  rintro e W2 ⟨rfl, h2⟩
  rw [HH.out.1, HH.out.2]
  have H2 := Lib.hid (gr_call H1.out h2)
  clear h2
  go_wp2_with (fail)
  refine (awake _ (HM.out.below H2.out)).mono ?_
  rintro e W3 ⟨rfl, h3⟩
  have H3 := Lib.hid (gr_call H2.out h3)
  clear h3
  go_wp2_with (fail)
  go_ret
  exact ⟨rfl, H3.out⟩

set_option maxRecDepth 100000 in
set_option maxHeartbeats 8000000 in
theorem law_long (s m : ByteArray) (k : Int) (hs : s.size ≤ 9223372036854775807) (hsm : m.size ≤ 9223372036854775807) (hkb : -9223372036854775808 ≤ k ∧ k ≤ 9223372036854775807) (w : World) (hm : MaxOk w) :
    Calls Tryd.prog 5 #[.string s, .string m, .int .i64 k] w fun e W' => e = .returned (.bool true) ∧ Below w.heap.size w W' := by
  have HM := Lib.hid hm
  by_cases hh : (2000 : Int) < (s.size : Int)
  · clear hm
    go_enter Tryd.func5, Tryd.ntmps5
    go_wp2_with (fail)
    refine (bheavy s hs _).mono ?_
    rintro e W0 ⟨rfl, rfl⟩
    rw [decide_eq_true hh]
    go_wp2_with (fail)
    refine (awake _ HM.out).mono ?_
    rintro e W1 ⟨rfl, h1⟩
    have H1 := Lib.hid h1
    clear h1
    go_wp2_with (fail)
    go_ret
    exact ⟨rfl, H1.out⟩
  · by_cases h100 : (100 : Int) < (m.size : Int)
    · clear hm
      go_enter Tryd.func5, Tryd.ntmps5
      go_wp2_with (fail)
      refine (bheavy s hs _).mono ?_
      rintro e W0 ⟨rfl, rfl⟩
      rw [decide_eq_false (show ¬ (2000 : Int) < (s.size : Int) by omega)]
      go_wp2_with (fail)
      refine (awake _ HM.out).mono ?_
      rintro e W1 ⟨rfl, h1⟩
      have H1 := Lib.hid h1
      clear h1
      go_wp2_with (fail)
      go_ret
      exact ⟨rfl, H1.out⟩
    · by_cases hL0 : longS (byS s) s.size = 0
      · exact long_cut s m (max 0 (min k (s.size : Int))).toNat k (by omega) (by omega) hh h100 hL0 hkb w hm
      · have hC := cat_long (m := m) hL0
        have HC := Lib.hid hC
        have hlt := long_at hL0
        have hz : s.size ≤ 1000000 := by omega
        have hzc : (s ++ m).size ≤ 1000000 := by rw [cat_size]; omega
        obtain ⟨L, hL⟩ : ∃ L, L = longS (byS s) s.size := ⟨_, rfl⟩
        obtain ⟨p, hp⟩ : ∃ p, p = longP (byS s) s.size := ⟨_, rfl⟩
        rw [← hL] at hL0
        rw [← hp] at hlt
        have HL := Lib.hid (And.intro hL hp)
        have q : (L != 0) = true := by simp; exact hL0
        clear hC hL hp hm hL0
        go_enter Tryd.func5, Tryd.ntmps5
        go_wp2_with (fail)
        refine (bheavy s hs _).mono ?_
        rintro e W0 ⟨rfl, rfl⟩
        rw [decide_eq_false (show ¬ (2000 : Int) < (s.size : Int) by omega)]
        go_wp2_with (fail)
        refine (blong s hz _ HM.out).mono ?_
        rintro e W1 ⟨rfl, h1⟩
        rw [← HL.out.1, ← HL.out.2]
        have H1 := Lib.hid h1
        clear h1
        go_wp2_with (fail)
        refine (blong _ hzc _ (HM.out.below H1.out)).mono ?_
        rintro e W2 ⟨rfl, h2⟩
        rw [HC.out.1, HC.out.2, ← HL.out.1, ← HL.out.2]
        have H2 := Lib.hid (gr_call H1.out h2)
        clear h2
        go_wp2_with (fail)
        refine (awake _ (HM.out.below H2.out)).mono ?_
        rintro e W3 ⟨rfl, h3⟩
        have H3 := Lib.hid (gr_call H2.out h3)
        clear h3
        go_wp2_with (fail)
        go_ret
        exact ⟨rfl, H3.out⟩
end Go.Proofs.YtllhcfgddcjfkaaDoor
