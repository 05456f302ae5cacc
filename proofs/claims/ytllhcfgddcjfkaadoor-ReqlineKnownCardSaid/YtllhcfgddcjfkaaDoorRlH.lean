/-
  The document's begins and Parse, walked; no condition.
-/
import Derived.Test.YtllhcfgddcjfkaaDoorRlF
namespace Go.Proofs.YtllhcfgddcjfkaaDoor
open Go.RowKit
set_option linter.unusedVariables false
set_option linter.unusedSimpArgs false

theorem tgt_zero {s : ByteArray} (h : s.size ≤ 1024) : tgtE s = 0 ↔ s.size ≠ 0 ∧ atB s = s.size := by
  have hl := atB_le s
  unfold tgtE
  rw [if_neg (by omega)]
  by_cases k : s.size = 0 ∨ atB s < s.size
  · rw [if_pos k]
    constructor
    · intro e; cases e
    · rintro ⟨a, b⟩; omega
  · rw [if_neg k]
    exact ⟨fun _ => by omega, fun _ => rfl⟩
/-- A part is a beginning of the version. -/
theorem ver_part (c : ByteArray) (h : c.size ≤ 8) : ((verE.extract 0 c.size).toList == c.toList) = decide (atC c = c.size) := by
  rw [str_beq, decide_eq_decide]
  have hz : (verE.extract 0 c.size).size = c.size := by rw [ext_len (by rw [ver_size]; exact h)]; omega
  constructor
  · intro e
    refine firstN_none fun x hx => ?_
    have : byS c x = verB x := by
      rw [← e, byS_ext (by omega) (by rw [ver_size]; exact h), Nat.zero_add, ver_byte x (by omega)]
    rw [this]; simp; omega
  · intro e
    refine str_eq hz fun i hi => ?_
    rw [hz] at hi
    rw [byS_ext (by omega) (by rw [ver_size]; exact h), Nat.zero_add, ver_byte i (by omega), (ver_prefix e).2 i hi]
/-- Whether a line is a beginning of a request line, part by part. -/
theorem begins_facts (s : ByteArray) (h16 : spA (byS s) s.size ≤ 16) (h1k : lenB (byS s) s.size ≤ 1024) (N : Int) (hN : N = (partN (byS s) s.size : Int)) (R : Bool) (hR : R = decide (wrongN (byS s) s.size = s.size)) :
    (N = 1 → (pA s).size = 0 → R = true) ∧ (isT (pA s) = false → ¬ (N = 1 ∧ (pA s).size = 0) → R = false) ∧ (isT (pA s) = true → N = 1 → R = true) ∧
    (isT (pA s) = true → N = 2 → (pB s).size = 0 → R = true) ∧ (isT (pA s) = true → 1 < N → ¬ (N = 2 ∧ (pB s).size = 0) → tgtE (pB s) ≠ 0 → R = false) ∧
    (isT (pA s) = true → N = 2 → (pB s).size ≠ 0 → tgtE (pB s) = 0 → R = true) ∧ (isT (pA s) = true → N = 3 → tgtE (pB s) = 0 → R = decide (atC (pC s) = (pC s).size)) := by
  have za := pA_size s
  have zb := pB_size s
  have la := spA_le (byS s) s.size
  have p1 := partN_1 (G := byS s) (n := s.size)
  have p2 := partN_2 (G := byS s) (n := s.size)
  have p3 := partN_3 (G := byS s) (n := s.size)
  have hw := partN_ways (byS s) s.size
  have n3 : N = 3 → spB (byS s) s.size < s.size := fun h => p3.1 (by omega)
  have n2 : N = 2 → spA (byS s) s.size < s.size ∧ spB (byS s) s.size = s.size := fun h => p2.1 (by omega)
  have n1 : N = 1 → spA (byS s) s.size = s.size := fun h => p1.1 (by omega)
  have m1 : 1 < N → spA (byS s) s.size < s.size := fun h => by
    rcases Nat.lt_or_ge (spA (byS s) s.size) s.size with k | k
    · exact k
    · have := p1.2 (by omega); omega
  have yes : wrongN (byS s) s.size = s.size → R = true := fun h => by rw [hR, h]; exact decide_eq_true rfl
  have no : ∀ k, wrongN (byS s) s.size = k ∧ k < s.size → R = false := fun k h => by rw [hR]; exact decide_eq_false (by omega)
  have tk : isT (pA s) = true → atA (pA s) = (pA s).size ∧ (pA s).size ≠ 0 := fun h => by
    have h0 := ((isT_iff _).1 h).1
    rw [isT_atA _ h0] at h
    exact ⟨of_decide_eq_true h, h0⟩
  have al := atA_le (pA s)
  have bl := atB_le (pB s)
  have tz := tgt_zero (s := pB s) (by omega)
  refine ⟨?_, ?_, ?_, ?_, ?_, ?_, ?_⟩
  · exact fun h h0 => yes (wrong_3 (n1 h) (by omega))
  · intro h hn
    by_cases h0 : (pA s).size = 0
    · have hk : spA (byS s) s.size < s.size := m1 (by omega)
      exact no 0 ⟨wrong_2 (by omega) hk, by omega⟩
    · rw [isT_atA _ h0] at h
      have := of_decide_eq_false h
      exact no _ (wrong_1 (by omega))
  · exact fun h h1 => yes (wrong_3 (n1 h1) (tk h).1)
  · exact fun h h1 h0 => yes (wrong_6 (tk h).1 (tk h).2 (by omega) (n2 h1).2 (n2 h1).1)
  · intro h h1 h2 h3
    by_cases h0 : (pB s).size = 0
    · have e3 : N = 3 := by omega
      exact no _ (wrong_5 (tk h).1 (tk h).2 (by omega) h0 (n3 e3))
    · have : atB (pB s) < (pB s).size := by
        rcases Nat.lt_or_ge (atB (pB s)) (pB s).size with k | k
        · exact k
        · exact absurd (tz.2 ⟨h0, by omega⟩) h3
      exact no _ (wrong_4 (m1 h1) (tk h).1 (tk h).2 this)
  · exact fun h h1 h0 h2 => yes (wrong_6 (tk h).1 (tk h).2 (tz.1 h2).2 (n2 h1).2 (n2 h1).1)
  · intro h h1 h2
    have cl := atC_le (pC s)
    by_cases hc : atC (pC s) = (pC s).size
    · rw [decide_eq_true hc]
      exact yes (wrong_8 (tk h).1 (tk h).2 (tz.1 h2).2 (tz.1 h2).1 (n3 h1) hc)
    · rw [decide_eq_false hc]
      exact no _ (wrong_7 (tk h).1 (tk h).2 (tz.1 h2).2 (tz.1 h2).1 (n3 h1) (by omega))

set_option maxRecDepth 100000 in
set_option maxHeartbeats 8000000 in
theorem rbegins (s : ByteArray) (hs : s.size ≤ 1000000) (h16 : spA (byS s) s.size ≤ 16) (h1k : lenB (byS s) s.size ≤ 1024) (w : World) :
    Calls Tryd.prog 31 #[.string s] w fun e W' => e = .returned (.bool (decide (wrongN (byS s) s.size = s.size))) ∧ Below w.heap.size w W' := by
  obtain ⟨R, hR⟩ : ∃ R, R = decide (wrongN (byS s) s.size = s.size) := ⟨_, rfl⟩
  obtain ⟨N, hN⟩ : ∃ N, N = (partN (byS s) s.size : Int) := ⟨_, rfl⟩
  have HF := Lib.hid (begins_facts s h16 h1k N hN R hR)
  have hw : N = 1 ∨ N = 2 ∨ N = 3 := by have := partN_ways (byS s) s.size; omega
  have za : (pA s).size ≤ 16 := by rw [pA_size]; exact h16
  have zb : (pB s).size ≤ 1024 := by rw [pB_size]; exact h1k
  have zc : (pC s).size ≤ 1000000 := by rw [pC_size]; unfold lenC; omega
  have HW := Lib.hid hw
  have vp := Lib.hid (ver_part (pC s))
  have vq := Lib.hid (fun h : atC (pC s) = (pC s).size => (ver_prefix h).1)
  rw [← hR]
  clear hR h16 h1k hw
  go_enter Tryd.func31, Tryd.ntmps31
  go_wp2_with (fail)
  refine (rparts s hs _).mono ?_
  rintro e W1 ⟨rfl, h1⟩
  have H1 := Lib.hid h1
  rw [← hN]
  clear h1 hN
  generalize pA s = a at *
  generalize pB s = b at *
  generalize pC s = c at *
  by_cases h0 : N = 1 ∧ a.size = 0
  · obtain ⟨rfl, h0⟩ := h0
    have kk := Lib.hid (HF.out.1 (by decide) h0)
    obtain rfl := empty_of_size h0
    go_wp2_with (fail)
    go_ret
    exact ⟨by rw [kk.out] <;> rfl, H1.out⟩
  · have H0 := Lib.hid h0
    have hq : N ≠ 1 ∨ (a.toList == []) = false := by
      by_cases e : N = 1
      · right; exact nonempty_b a (by omega)
      · left; exact e
    clear h0
    cases hi : isT a
    · have kk := Lib.hid (HF.out.2.1 hi H0.out)
      have HI := Lib.hid hi
      clear hi
      rcases HW.out with rfl | rfl | rfl
      · have hq2 : (a.toList == []) = false := by rcases hq with h | h <;> first | exact absurd rfl h | exact h
        clear hq
        go_wp2_with (fail)
        refine (ris a (by omega) _).mono ?_
        rintro e W2 ⟨rfl, rfl⟩
        rw [HI.out]
        go_wp2_with (fail)
        go_ret
        exact ⟨by rw [kk.out] <;> rfl, H1.out⟩
      · clear hq
        go_wp2_with (fail)
        refine (ris a (by omega) _).mono ?_
        rintro e W2 ⟨rfl, rfl⟩
        rw [HI.out]
        go_wp2_with (fail)
        go_ret
        exact ⟨by rw [kk.out] <;> rfl, H1.out⟩
      · clear hq
        go_wp2_with (fail)
        refine (ris a (by omega) _).mono ?_
        rintro e W2 ⟨rfl, rfl⟩
        rw [HI.out]
        go_wp2_with (fail)
        go_ret
        exact ⟨by rw [kk.out] <;> rfl, H1.out⟩
    · have HI := Lib.hid hi
      clear hi
      rcases HW.out with rfl | rfl | rfl
      · have hq2 : (a.toList == []) = false := by rcases hq with h | h <;> first | exact absurd rfl h | exact h
        have kk := Lib.hid (HF.out.2.2.1 HI.out (by decide))
        clear hq
        go_wp2_with (fail)
        refine (ris a (by omega) _).mono ?_
        rintro e W2 ⟨rfl, rfl⟩
        rw [HI.out]
        go_wp2_with (fail)
        go_ret
        exact ⟨by rw [kk.out] <;> rfl, H1.out⟩
      · clear hq
        by_cases hb : b.size = 0
        · have kk := Lib.hid (HF.out.2.2.2.1 HI.out (by decide) hb)
          obtain rfl := empty_of_size hb
          go_wp2_with (fail)
          refine (ris a (by omega) _).mono ?_
          rintro e W2 ⟨rfl, rfl⟩
          rw [HI.out]
          go_wp2_with (fail)
          go_ret
          exact ⟨by rw [kk.out] <;> rfl, H1.out⟩
        · have hqb := nonempty_b b (by omega)
          go_wp2_with (fail)
          refine (ris a (by omega) _).mono ?_
          rintro e W2 ⟨rfl, rfl⟩
          rw [HI.out]
          go_wp2_with (fail)
          refine (rtgt b (by omega) _).mono ?_
          rintro e W3 ⟨rfl, rfl⟩
          by_cases ht : tgtE b = 0
          · have kk := Lib.hid (HF.out.2.2.2.2.2.1 HI.out (by decide) hb ht)
            rw [ht]
            clear ht
            go_wp2_with (fail)
            go_ret
            exact ⟨by rw [kk.out] <;> rfl, H1.out⟩
          · have kk := Lib.hid (HF.out.2.2.2.2.1 HI.out (by decide) (fun h => hb h.2) ht)
            have q : (tgtE b != 0) = true := by simp; exact ht
            clear ht
            go_wp2_with (fail)
            go_ret
            exact ⟨by rw [kk.out] <;> rfl, H1.out⟩
      · clear hq
        go_wp2_with (fail)
        refine (ris a (by omega) _).mono ?_
        rintro e W2 ⟨rfl, rfl⟩
        rw [HI.out]
        go_wp2_with (fail)
        refine (rtgt b (by omega) _).mono ?_
        rintro e W3 ⟨rfl, rfl⟩
        by_cases ht : tgtE b = 0
        · have kk := Lib.hid (HF.out.2.2.2.2.2.2 HI.out (by decide) ht)
          rw [ht]
          clear ht
          by_cases h8 : (c.size : Int) ≤ 8
          · have vv := vp.out (by omega)
            have hz8 : c.size ≤ verE.size := by rw [ver_size]; omega
            unfold verE at vv hz8
            obtain ⟨D, hD⟩ : ∃ D, D = decide (atC c = c.size) := ⟨_, rfl⟩
            rw [← hD] at vv
            have HD := Lib.hid (kk.out.trans hD.symm)
            clear hD
            cases D
            · go_wp2_with (fail)
              go_ret
              exact ⟨by rw [HD.out] <;> rfl, H1.out⟩
            · go_wp2_with (fail)
              go_ret
              exact ⟨by rw [HD.out] <;> rfl, H1.out⟩
          · have k2 : Hid (R = false) := Lib.hid (by rw [kk.out]; exact decide_eq_false (fun h => by have := vq.out h; omega))
            go_wp2_with (fail)
            go_ret
            exact ⟨by rw [k2.out] <;> rfl, H1.out⟩
        · have kk := Lib.hid (HF.out.2.2.2.2.1 HI.out (by decide) (fun h => by have := h.1; omega) ht)
          have q : (tgtE b != 0) = true := by simp; exact ht
          clear ht
          go_wp2_with (fail)
          go_ret
          exact ⟨by rw [kk.out] <;> rfl, H1.out⟩
end Go.Proofs.YtllhcfgddcjfkaaDoor
