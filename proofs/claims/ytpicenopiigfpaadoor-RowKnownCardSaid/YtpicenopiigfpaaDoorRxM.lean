/-
  RowWords, walked: it returns true, whatever the input; conditions: the two sentinels hold interface values, the table of powers lies as it is laid.
-/
import Derived.Test.YtpicenopiigfpaaDoorRxK
import Derived.Test.YtpicenopiigfpaaDoorRxL
import Derived.Test.YtpicenopiigfpaaDoorRwQ
import Derived.Test.YtpicenopiigfpaaDoorRwO
namespace Go.Proofs.YtpicenopiigfpaaDoor
open Go.RowKit
set_option linter.unusedVariables false
set_option linter.unusedSimpArgs false

set_option maxRecDepth 100000 in
set_option maxHeartbeats 8000000 in
theorem law_words (s : ByteArray) (lo hi : Int) (ts : List ByteArray) (v : Value) (w : World) (hv : TextsIn w v ts) (hN : NumOk w) :
    Calls Tryd.prog 8 #[.string s, .int .i64 lo, .int .i64 hi, v] w fun e W' => e = .returned (.bool true) ∧ Below w.heap.size w W' := by
  have HE := Lib.hid (And.intro hN hv)
  clear hN
  obtain ⟨A, c, rfl, _, hA⟩ := hv
  obtain ⟨n, hn⟩ : ∃ n, n = ts.length := ⟨_, rfl⟩
  have HA := Lib.hid (And.intro hA hn)
  rw [← hn]
  clear hA
  by_cases h0 : 300 < s.size ∨ 20 < n
  · clear hn
    rcases (show (300 : Int) < s.size ∨ (¬ (300 : Int) < s.size ∧ (20 : Int) < n) by omega) with h | ⟨h, h'⟩
    all_goals
      clear h0
      go_enter Tryd.func8, Tryd.ntmps8
      go_wp2_with (fail)
      refine (lawake _ HE.out.1.e0).mono ?_
      rintro e W1 ⟨rfl, h1⟩
      have H1 := Lib.hid h1
      clear h1
      go_wp2_with (fail)
      go_ret
      exact ⟨rfl, H1.out⟩
  · have h1 : ¬ (300 : Int) < s.size := by omega
    have h2 : ¬ (20 : Int) < n := by omega
    have hv := HE.out.2
    rw [← hn] at hv
    obtain ⟨nr, hnr⟩ : ∃ r, r = numR s.data.toList lo hi := ⟨_, rfl⟩
    obtain ⟨wh, hwh⟩ : ∃ r, r = whI ts s := ⟨_, rfl⟩
    have q1 := fun W h => wNumber s lo hi (by omega) W h
    have q2 := fun W => rNumber s lo hi (by omega) W
    have q3 := fun W h => wWhich ts s (.slice A n c) (by omega) W h
    have q4 := fun W h => rWhich ts s (.slice A n c) (by omega) W h
    have q5 := fun W => wBare s W (by omega)
    have q6 := fun W => rBare s W (by omega)
    have q7 := fun W => wWrite s W (by omega)
    have q8 := fun W => rWrite s (by omega) W
    obtain ⟨bw, hbw⟩ : ∃ b, b = bareW s.data.toList := ⟨_, rfl⟩
    obtain ⟨x, hx⟩ : ∃ x, x = mkB (wrW s.data.toList) := ⟨_, rfl⟩
    rw [← hnr] at q1 q2
    rw [← hwh] at q3 q4
    rw [← hbw] at q5 q6
    rw [← hx] at q7 q8
    obtain ⟨n1, n2⟩ := nr
    obtain ⟨k1, k2⟩ := wh
    unfold numV at q1 q2
    unfold whV at q3 q4
    dsimp only at q1 q2 q3 q4
    have Q := Lib.hid (And.intro q1 (And.intro q2 (And.intro q3 (And.intro q4 (And.intro q5 (And.intro q6 (And.intro q7 q8)))))))
    have HV := Lib.hid hv
    clear q1 q2 q3 q4 q5 q6 q7 q8 hnr hwh hbw hx hv h0 hn
    go_enter Tryd.func8, Tryd.ntmps8
    go_wp2_with (fail)
    go_loopw [9] (fun iv wr => (∃ k : Nat, k ≤ n ∧ iv = .int .i64 (k : Int)) ∧ wr = w) (fun iv _ => n - (intOf iv).toNat)
    case atStart => exact ⟨⟨0, Nat.zero_le _, rfl⟩, rfl⟩
    case round =>
      obtain ⟨⟨k, hk, rfl⟩, rfl⟩ := hrel
      by_cases hlt : k < n
      · have hki : (k : Int) < n := by omega
        obtain ⟨t, ht⟩ : ∃ t, ts[k]? = some t := ⟨_, List.getElem?_eq_getElem (by rw [← HA.out.2]; exact hlt)⟩
        obtain ⟨ab, ao, rfl, hab, c0⟩ := cells_tx HA.out.1 ht
        by_cases h100 : 100 < t.size
        · have h3 : (100 : Int) < t.size := by omega
          clear ht
          go_wp2_with (fail)
          refine (lawake _ HE.out.1.e0).mono ?_
          rintro e W1 ⟨rfl, g1⟩
          have H1 := Lib.hid g1
          clear g1
          go_wp2_with (fail)
          go_ret
          exact ⟨rfl, H1.out⟩
        · have h3 : ¬ (100 : Int) < t.size := by omega
          clear ht
          go_wp2_with (fail)
          go_roundw
          case rel => exact ⟨⟨k + 1, by omega, rfl⟩, trivial⟩
          case measure => simp [intOf]; omega
      · have hki : ¬ (k : Int) < n := by omega
        go_wp2_with (fail)
        refine (Q.out.1 _ HE.out.1).mono ?_
        rintro e W1 ⟨rfl, g1⟩
        have H1 := Lib.hid g1
        clear g1
        go_wp2_with (fail)
        refine (Q.out.2.1 _).mono ?_
        rintro e W2 ⟨rfl, rfl⟩
        go_wp2_with (fail)
        refine (Q.out.2.2.1 _ (HV.out.below H1.out)).mono ?_
        rintro e W3 ⟨rfl, rfl⟩
        go_wp2_with (fail)
        refine (Q.out.2.2.2.1 _ (HV.out.below H1.out)).mono ?_
        rintro e W4 ⟨rfl, rfl⟩
        go_wp2_with (fail)
        refine (Q.out.2.2.2.2.1 _).mono ?_
        rintro e W5 ⟨rfl, g5⟩
        have H5 := Lib.hid (gr_call H1.out g5)
        clear g5
        go_wp2_with (fail)
        refine (Q.out.2.2.2.2.2.1 _).mono ?_
        rintro e W6 ⟨rfl, q6, rfl⟩
        have H6 := Lib.hid (below_drewN H5.out q6)
        go_wp2_with (fail)
        refine (Q.out.2.2.2.2.2.2.1 _).mono ?_
        rintro e W7 ⟨rfl, g7⟩
        have H7 := Lib.hid (gr_call H6.out g7)
        clear g7
        go_wp2_with (fail)
        refine (Q.out.2.2.2.2.2.2.2 _).mono ?_
        rintro e W8 ⟨rfl, g8⟩
        have B8 := gr_call H7.out g8
        have H8 := Lib.hid (And.intro B8 (HE.out.1.e0.below B8 HE.out.1.e0.lt))
        clear g8 B8
        go_wp2_with (fail)
        refine (lawake _ H8.out.2).mono ?_
        rintro e W9 ⟨rfl, g9⟩
        have H9 := Lib.hid (gr_call H8.out.1 g9)
        clear g9
        go_wp2_with (fail)
        go_ret
        exact ⟨rfl, H9.out⟩
end Go.Proofs.YtpicenopiigfpaaDoor
