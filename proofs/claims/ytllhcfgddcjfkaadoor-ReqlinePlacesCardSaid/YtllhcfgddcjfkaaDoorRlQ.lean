/-
  ReqlinePlaces, walked: it returns true, whatever the input; condition: a variable of the library is an int.
-/
import Derived.Test.YtllhcfgddcjfkaaDoorRlN
namespace Go.Proofs.YtllhcfgddcjfkaaDoor
open Go.RowKit
set_option linter.unusedVariables false
set_option linter.unusedSimpArgs false

theorem par_congr {G H : Nat → Nat} {n : Nat} (h : ∀ x, x < n → G x = H x) : parS G n = parS H n ∧ parP G n = parP H n := by
  have hc := longS_congr h
  have hw := wrong_congr h
  unfold parS parP lenC
  rw [hc.1, hc.2, hw, spB_congr h]
  exact ⟨rfl, rfl⟩
theorem head_par {s : ByteArray} {j : Nat} (hj : j ≤ parP (byS s) s.size) (h : longS (byS s) s.size = 0) : (parS (byS (s.extract 0 j)) (s.extract 0 j).size = 400 ∨ parS (byS (s.extract 0 j)) (s.extract 0 j).size = 0) ∧ parP (byS (s.extract 0 j)) (s.extract 0 j).size = j := by
  have hjn : j ≤ s.size := Nat.le_trans hj (parP_le _ _)
  have hc := par_congr (G := byS (s.extract 0 j)) (H := byS s) (n := j) (fun x hx => byS_head hjn hx)
  rw [head_size hjn, hc.1, hc.2]
  exact par_begin hj h
theorem cat_par {s m : ByteArray} (hp : parP (byS s) s.size < s.size) (hl : longS (byS s) s.size = 0 → longS (byS (s ++ m)) (s ++ m).size = 0) : parS (byS (s ++ m)) (s ++ m).size = parS (byS s) s.size ∧ parP (byS (s ++ m)) (s ++ m).size = parP (byS s) s.size := by
  have hc := par_congr (G := byS (s ++ m)) (H := byS s) (n := s.size) (fun x hx => byS_left hx)
  have hl2 := longS_congr (G := byS (s ++ m)) (H := byS s) (n := s.size) (fun x hx => byS_left hx)
  rw [← hc.1, ← hc.2]
  exact par_more (by rw [cat_size]; omega) (by rw [hc.2]; exact hp) (by rw [hl2.1]; exact hl)
theorem parP_long {s : ByteArray} (h : longS (byS s) s.size ≠ 0) : parP (byS s) s.size < s.size := by
  unfold parP
  rw [if_pos h]
  exact long_at h

set_option maxRecDepth 100000 in
set_option maxHeartbeats 8000000 in
theorem places_core (s m : ByteArray) (h200 : ¬ (200 : Int) < (s.size : Int)) (h60 : ¬ (60 : Int) < (m.size : Int)) (w : World) (hm : MaxOk w) :
    Calls Tryd.prog 6 #[.string s, .string m] w fun e W' => e = .returned (.bool true) ∧ Below w.heap.size w W' := by
  have HM := Lib.hid hm
  have hz : s.size ≤ 200 := by omega
  have hz1 : s.size ≤ 1000000 := by omega
  have hzc : (s ++ m).size ≤ 1000000 := by rw [cat_size]; omega
  have HF := Lib.hid (And.intro (@head_par s) (And.intro (@cat_par s m) (And.intro (@parP_long s) (@parP_zero (byS s) s.size))))
  obtain ⟨S, hS⟩ : ∃ S, S = parS (byS s) s.size := ⟨_, rfl⟩
  obtain ⟨p, hp⟩ : ∃ p, p = parP (byS s) s.size := ⟨_, rfl⟩
  obtain ⟨L, hL⟩ : ∃ L, L = longS (byS s) s.size := ⟨_, rfl⟩
  have hpn : p ≤ s.size := by rw [hp]; exact parP_le _ _
  have HV : Hid (parV s = .tuple #[.agg #[.string (parA s), .string (parB s)], .int .i64 S, .int .i64 (p : Int)]) := Lib.hid (by unfold parV; rw [hS, hp])
  rw [← hS, ← hp, ← hL] at HF
  have HE := Lib.hid (And.intro hS (And.intro hp hL))
  clear hm hS hp hL
  go_enter Tryd.func6, Tryd.ntmps6
  go_wp2_with (fail)
  refine (bparse s hz1 _ HM.out).mono ?_
  rintro e W1 ⟨rfl, h1⟩
  rw [HV.out]
  have H1 := Lib.hid (gr_alloc h1 (.cells #[.string (parA s), .string (parB s)] 29))
  clear h1
  by_cases hS0 : S = 0
  · have e0 : p = s.size := HF.out.2.2.2 hS0
    subst hS0
    clear hpn
    have HE0 := Lib.hid e0
    rw [e0]
    clear e0
    go_wp2_with (fail)
    refine (awake _ (HM.out.below H1.out)).mono ?_
    rintro e W2 ⟨rfl, h2⟩
    have H2 := Lib.hid (gr_call H1.out h2)
    clear h2
    go_wp2_with (fail)
    go_ret
    exact ⟨rfl, H2.out⟩
  · have q0 : (S == 0) = false := by simp; exact hS0
    clear hS0
    go_wp2_with (fail)
    refine (blong s hz1 _ (HM.out.below H1.out)).mono ?_
    rintro e W2 ⟨rfl, h2⟩
    rw [← HE.out.2.2]
    obtain ⟨lp, hlp⟩ : ∃ lp, lp = longP (byS s) s.size := ⟨_, rfl⟩
    rw [← hlp]
    have H2 := Lib.hid (gr_call H1.out h2)
    clear h2 hlp
    go_wp2_with (fail)
    go_loopw [10] (fun k wr => ∃ j : Nat, j ≤ p + 1 ∧ (L ≠ 0 → j = 0) ∧ k = .int .i64 (j : Int) ∧ Below w.heap.size w wr) (fun k _ => p + 1 - (intOf k).toNat)
    case atStart => exact ⟨0, by omega, fun _ => rfl, rfl, H2.out⟩
    case round =>
      obtain ⟨j, hj, hj0, rfl, hb⟩ := hrel
      have HB := Lib.hid hb
      clear hb
      by_cases hL0 : L = 0
      · clear hj0
        by_cases hjp : (j : Int) ≤ (p : Int)
        · have hh := HF.out.1 (j := j) (by omega) hL0
          have hsz := head_size (s := s) (k := j) (by omega)
          have HH := Lib.hid (And.intro hh hsz)
          clear hh hsz
          obtain ⟨B, hB⟩ : ∃ B, B = parS (byS (s.extract 0 j)) (s.extract 0 j).size := ⟨_, rfl⟩
          have HBV : Hid (parV (s.extract 0 j) = .tuple #[.agg #[.string (parA (s.extract 0 j)), .string (parB (s.extract 0 j))], .int .i64 B, .int .i64 (j : Int)]) := Lib.hid (by unfold parV; rw [hB, HH.out.1.2])
          have hB2 : B = 400 ∨ B = 0 := by rw [hB]; exact HH.out.1.1
          subst hL0
          clear hB
          go_wp2_with (fail)
          refine (bparse (s.extract 0 j) (by rw [HH.out.2]; omega) _ (HM.out.below HB.out)).mono ?_
          rintro e W3 ⟨rfl, h3⟩
          rw [HBV.out]
          have H3 := Lib.hid (gr_alloc (gr_call HB.out h3) (.cells #[.string (parA (s.extract 0 j)), .string (parB (s.extract 0 j))] 29))
          clear h3
          rcases hB2 with rfl | rfl
          · go_wp2_with (fail)
            exact ⟨⟨j + 1, by omega, fun h => absurd rfl h, by go_num, H3.out⟩, by simp [intOf]; omega⟩
          · go_wp2_with (fail)
            exact ⟨⟨j + 1, by omega, fun h => absurd rfl h, by go_num, H3.out⟩, by simp [intOf]; omega⟩
        · subst hL0
          by_cases hpe : p = s.size
          · have qe : ((p : Int) == (s.size : Int)) = true := by simp; omega
            clear hpe
            go_wp2_with (fail)
            refine (awake _ (HM.out.below HB.out)).mono ?_
            rintro e W3 ⟨rfl, h3⟩
            have H3 := Lib.hid (gr_call HB.out h3)
            clear h3
            go_wp2_with (fail)
            go_ret
            exact ⟨rfl, H3.out⟩
          · have qe : ((p : Int) == (s.size : Int)) = false := by simp; omega
            have hlt : p < s.size := by omega
            have HLT := Lib.hid hlt
            clear hpe hlt
            go_wp2_with (fail)
            refine (blong (s ++ m) hzc _ (HM.out.below HB.out)).mono ?_
            rintro e W3 ⟨rfl, h3⟩
            have H3 := Lib.hid (gr_call HB.out h3)
            clear h3
            obtain ⟨L2, hL2⟩ : ∃ L2, L2 = longS (byS (s ++ m)) (s ++ m).size := ⟨_, rfl⟩
            obtain ⟨lq, hlq⟩ : ∃ lq, lq = longP (byS (s ++ m)) (s ++ m).size := ⟨_, rfl⟩
            rw [← hL2, ← hlq]
            clear hlq
            by_cases h20 : L2 = 0
            · have hcp := HF.out.2.1 HLT.out (fun _ => by rw [← hL2]; exact h20)
              have HCV : Hid (parV (s ++ m) = .tuple #[.agg #[.string (parA (s ++ m)), .string (parB (s ++ m))], .int .i64 S, .int .i64 (p : Int)]) := Lib.hid (by unfold parV; rw [hcp.1, hcp.2])
              subst h20
              clear hL2 hcp
              go_wp2_with (fail)
              refine (bparse (s ++ m) hzc _ (HM.out.below H3.out)).mono ?_
              rintro e W4 ⟨rfl, h4⟩
              rw [HCV.out]
              have H4 := Lib.hid (gr_alloc (gr_call H3.out h4) (.cells #[.string (parA (s ++ m)), .string (parB (s ++ m))] 29))
              clear h4
              go_wp2_with (fail)
              refine (awake _ (HM.out.below H4.out)).mono ?_
              rintro e W5 ⟨rfl, h5⟩
              have H5 := Lib.hid (gr_call H4.out h5)
              clear h5
              go_wp2_with (fail)
              go_ret
              exact ⟨rfl, H5.out⟩
            · have q2 : (L2 != 0) = true := by simp; exact h20
              clear h20 hL2
              go_wp2_with (fail)
              refine (awake _ (HM.out.below H3.out)).mono ?_
              rintro e W5 ⟨rfl, h5⟩
              have H5 := Lib.hid (gr_call H3.out h5)
              clear h5
              go_wp2_with (fail)
              go_ret
              exact ⟨rfl, H5.out⟩
      · obtain rfl := hj0 hL0
        have hlt := HF.out.2.2.1 hL0
        have hcp := HF.out.2.1 hlt (fun h => absurd h hL0)
        have qL : (L == 0) = false := by simp; exact hL0
        have qe : ((p : Int) == (s.size : Int)) = false := by simp; omega
        have HCV : Hid (parV (s ++ m) = .tuple #[.agg #[.string (parA (s ++ m)), .string (parB (s ++ m))], .int .i64 S, .int .i64 (p : Int)]) := Lib.hid (by unfold parV; rw [hcp.1, hcp.2])
        clear hcp hL0 hj0 hlt
        go_wp2_with (fail)
        refine (bparse (s ++ m) hzc _ (HM.out.below HB.out)).mono ?_
        rintro e W4 ⟨rfl, h4⟩
        rw [HCV.out]
        have H4 := Lib.hid (gr_alloc (gr_call HB.out h4) (.cells #[.string (parA (s ++ m)), .string (parB (s ++ m))] 29))
        clear h4
        go_wp2_with (fail)
        refine (awake _ (HM.out.below H4.out)).mono ?_
        rintro e W5 ⟨rfl, h5⟩
        have H5 := Lib.hid (gr_call H4.out h5)
        clear h5
        go_wp2_with (fail)
        go_ret
        exact ⟨rfl, H5.out⟩

set_option maxRecDepth 100000 in
set_option maxHeartbeats 8000000 in
theorem law_places (s m : ByteArray) (hs : s.size ≤ 9223372036854775807) (hsm : m.size ≤ 9223372036854775807) (w : World) (hm : MaxOk w) :
    Calls Tryd.prog 6 #[.string s, .string m] w fun e W' => e = .returned (.bool true) ∧ Below w.heap.size w W' := by
  by_cases h1 : (200 : Int) < (s.size : Int)
  · have HM := Lib.hid hm
    clear hm
    go_enter Tryd.func6, Tryd.ntmps6
    go_wp2_with (fail)
    refine (awake _ HM.out).mono ?_
    rintro e W1 ⟨rfl, h1⟩
    have H1 := Lib.hid h1
    clear h1
    go_wp2_with (fail)
    go_ret
    exact ⟨rfl, H1.out⟩
  · by_cases h2 : (60 : Int) < (m.size : Int)
    · have HM := Lib.hid hm
      clear hm
      go_enter Tryd.func6, Tryd.ntmps6
      go_wp2_with (fail)
      refine (awake _ HM.out).mono ?_
      rintro e W1 ⟨rfl, h1⟩
      have H1 := Lib.hid h1
      clear h1
      go_wp2_with (fail)
      go_ret
      exact ⟨rfl, H1.out⟩
    · exact places_core s m h1 h2 w hm
end Go.Proofs.YtllhcfgddcjfkaaDoor
