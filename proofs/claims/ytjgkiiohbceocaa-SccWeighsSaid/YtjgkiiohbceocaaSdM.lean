/-
  The law SccParts, walked; no condition.
-/
import Derived.Test.YtjgkiiohbceocaaSdL
namespace Go.Proofs.Ytjgkiiohbceocaa
open Go.RowKit
set_option linter.unusedVariables false
set_option linter.unusedSimpArgs false

theorem same_ll (L : List (List Nat)) (va vb : Value) (h1 : L.length ≤ 1000000) (h2 : ∀ l ∈ L, l.length ≤ 1000000) (w : World) (hA : LLAt w va L) (hB : LLAt w vb L) :
    Calls Try.prog 27 #[va, vb] w fun e W' => e = .returned (.bool true) ∧ Below w.heap.size w W' := by
  have h := lists_law L L va vb h1 h1 h2 h2 w hA hB
  rwa [decide_eq_true rfl] at h
theorem same_b (a : List Bool) (va vb : Value) (la : a.length ≤ 1000000) (w : World) (ha : CellsAt w va (boolL a)) (hb : CellsAt w vb (boolL a)) :
    Calls Try.prog 28 #[va, vb] w fun e W' => e = .returned (.bool true) ∧ Below w.heap.size w W' := by
  have h := same_bools a a va vb w ha hb la la
  rwa [decide_eq_true rfl] at h
theorem same_n (a : List Nat) (va vb : Value) (la : a.length ≤ 1000000) (w : World) (ha : NatsAt w va a) (hb : NatsAt w vb a) :
    Calls Try.prog 17 #[va, vb] w fun e W' => e = .returned (.bool true) ∧ Below w.heap.size w W' := by
  have h := same_nats a a va vb w ha hb la la
  rwa [decide_eq_true rfl] at h
theorem same_g (k : Int) (L : List Edg) (A B : Option Addr) (c d : Nat) (hL : L.length ≤ 1000000) (w : World) (hA : Cells w A 2 L.length (edAt L)) (hB : Cells w B 2 L.length (edAt L)) :
    Calls Try.prog 20 #[.agg #[.int .i64 k, .slice A L.length c], .agg #[.int .i64 k, .slice B L.length d]] w fun e W' => e = .returned (.bool true) ∧ Below w.heap.size w W' := by
  have h := same_graph k k L L A B c d hL hL w hA hB
  rwa [decide_eq_true rfl, decide_eq_true rfl] at h
/-- The answers are short. -/
theorem ans_len (n : Int) (l : List Edg) : (vParts n l).length ≤ 1000000 ∧ (∀ c ∈ vParts n l, c.length ≤ 1000000) ∧ (vLoops n l).length ≤ 1000000 ∧ (vOrder n l).length ≤ 1000000 ∧ (vLevels n l).length ≤ 1000000 ∧ (vCond n l).length ≤ 1000000 := by
  by_cases he : (chkG n l).1 = 0
  · obtain ⟨m, rfl, hm, hv, hw, ht⟩ := ok_nat he
    have hR : rR (m : Int) l = rea m (relE l) := by unfold rR; rw [Int.toNat_natCast]
    have hP : pV (m : Int) l = partsV m (rea m (relE l)) := by unfold pV; rw [hR, Int.toNat_natCast]
    have hpw := parts_what ht hm
    rw [← hP] at hpw
    have h1 : vParts (m : Int) l = pV m l := by unfold vParts; rw [if_pos he]
    have h2 : vLoops (m : Int) l = loopsV m l := by unfold vLoops; rw [if_pos he]
    have h3 : vLevels (m : Int) l = levelsV m l := by unfold vLevels; rw [if_pos he]
    have h4 : vCond (m : Int) l = (condV m l).map conE := by unfold vCond; rw [if_pos he]
    have hf : (pV (m : Int) l).flatten.length ≤ 64 * 64 := by
      rw [flat_len]
      exact Nat.le_trans (sumL_le (B := 64) (fun c hc => (hpw.2 c hc).2.1)) (Nat.mul_le_mul hpw.1 (Nat.le_refl _))
    refine ⟨by rw [h1]; have := hpw.1; omega, fun c hc => ?_, ?_, ?_, ?_, ?_⟩
    · rw [h1] at hc
      have := (hpw.2 c hc).2.1
      omega
    · rw [h2]; unfold loopsV; rw [List.length_map]; have := hpw.1; omega
    · unfold vOrder
      split
      · omega
      · simp
    · rw [h3]; unfold levelsV; rw [List.length_map, List.length_range, Int.toNat_natCast]; omega
    · rw [h4, List.length_map]; unfold condV
      exact Nat.le_trans (condL_len _ _) (Nat.le_trans (Nat.mul_le_mul hpw.1 hpw.1) (by decide))
  · have h1 : vParts n l = [] := by unfold vParts; rw [if_neg he]
    have h2 : vLoops n l = [] := by unfold vLoops; rw [if_neg he]
    have h3 : vLevels n l = [] := by unfold vLevels; rw [if_neg he]
    have h4 : vCond n l = [] := by unfold vCond; rw [if_neg he]
    have h5 : vOrder n l = [] := by unfold vOrder eOrder; rw [if_neg he, if_neg he]
    rw [h1, h2, h3, h4, h5]
    exact ⟨Nat.zero_le _, (fun c hc => by cases hc), Nat.zero_le _, Nat.zero_le _, Nat.zero_le _, Nat.zero_le _⟩

set_option maxRecDepth 100000 in
set_option maxHeartbeats 8000000 in
theorem law_parts (n : Int) (l : List Edg) (A : Option Addr) (c : Nat) (w : World) (hA : Cells w A 2 l.length (edAt l)) :
    Calls Try.prog 4 #[.agg #[.int .i64 n, .slice A l.length c]] w fun e w' => e = .returned (.bool true) ∧ Below w.heap.size w w' := by
  have b0 := gr_alloc (Below.refl w.heap.size w) (.cells #[.int .i64 n, .slice A l.length c] 24)
  have k0 := Blk.new w 24 #[.int .i64 n, .slice A l.length c]
  have hA0 := hA.below b0
  have hlg := large_law n l A c (w.alloc (.cells #[.int .i64 n, .slice A l.length c] 24))
  have N := Lib.hid (ans_len n l)
  have r0 := k0.cell' (i := 0) rfl
  have r1 := k0.cell' (i := 1) rfl
  have rl := k0.lt
  by_cases h2 : 200 < l.length
  · rw [decide_eq_true h2] at hlg
    have H := Lib.hid (And.intro b0 hlg)
    clear b0 k0 hA hA0 hlg h2
    go_enter Try.func4, Try.ntmps4
    go_wp2_with (fail)
    refine H.out.2.mono ?_
    rintro e W1 ⟨rfl, h1⟩
    have D := Lib.hid (gr_call H.out.1 h1)
    clear h1
    go_wp2_with (fail)
    refine (awake_law _).mono ?_
    rintro e W2 ⟨rfl, h2⟩
    have D2 := Lib.hid (gr_call D.out h2)
    clear h2
    go_wp2_with (fail)
    go_ret
    exact ⟨rfl, D2.out⟩
  · rw [decide_eq_false h2] at hlg
    have hl : l.length ≤ 1000000 := by omega
    have H := Lib.hid (And.intro b0 (And.intro k0 (And.intro hA0 hlg)))
    clear b0 k0 hA hA0 hlg h2
    go_enter Try.func4, Try.ntmps4
    go_wp2_with (fail)
    refine H.out.2.2.2.mono ?_
    rintro e W1 ⟨rfl, h1⟩
    have D := Lib.hid (And.intro (gr_call H.out.1 h1) (And.intro (H.out.2.1.call h1) (H.out.2.2.1.below h1)))
    clear h1 r0 r1 rl
    have r0 := D.out.2.1.cell' (i := 0) rfl
    have r1 := D.out.2.1.cell' (i := 1) rfl
    have rl := D.out.2.1.lt
    go_wp2_with (fail)
    refine (own_graph n l A c hl _ D.out.2.2).mono ?_
    rintro e W2 ⟨B, d, rfl, kb, h2⟩
    have h3 := gr_alloc h2 (.cells #[.int .i64 n, .slice B l.length d] 24)
    have S := Lib.hid (And.intro (gr_call D.out.1 h3) (And.intro (D.out.2.1.call h3) (And.intro (Blk.new W2 24 #[.int .i64 n, .slice B l.length d]) (And.intro (D.out.2.2.below h3) (kb.below (gr_alloc (Below.refl _ _) (.cells #[.int .i64 n, .slice B l.length d] 24)))))))
    clear h2 h3 kb r0 r1 rl
    have r0 := (S.out.2.1).cell' (i := 0) rfl
    have r1 := (S.out.2.1).cell' (i := 1) rfl
    have rl := (S.out.2.1).lt
    have s0 := (S.out.2.2.1).cell' (i := 0) rfl
    have s1 := (S.out.2.2.1).cell' (i := 1) rfl
    have sl := (S.out.2.2.1).lt
    go_wp2_with (fail)
    refine (check_code n l hl B d _ (S.out.2.2.2.2)).mono ?_
    rintro e V1 ⟨rfl, h⟩
    clear r0 r1 rl s0 s1 sl
    have S2 := Lib.hid (And.intro (gr_call (S.out.1) h) (And.intro ((S.out.2.1).call h) (And.intro ((S.out.2.2.1).call h) (And.intro ((S.out.2.2.2.1).below h) ((S.out.2.2.2.2).below h)))))
    clear S h
    have S := Lib.hid S2.out
    clear S2
    have r0 := (S.out.2.1).cell' (i := 0) rfl
    have r1 := (S.out.2.1).cell' (i := 1) rfl
    have rl := (S.out.2.1).lt
    have s0 := (S.out.2.2.1).cell' (i := 0) rfl
    have s1 := (S.out.2.2.1).cell' (i := 1) rfl
    have sl := (S.out.2.2.1).lt
    go_wp2_with (fail)
    refine (rcheck n l hl A c _ (S.out.2.2.2.1)).mono ?_
    rintro e V2 ⟨rfl, h⟩
    clear r0 r1 rl s0 s1 sl
    have S2 := Lib.hid (And.intro (gr_call (S.out.1) h) (And.intro ((S.out.2.1).call h) (And.intro ((S.out.2.2.1).call h) (And.intro ((S.out.2.2.2.1).below h) ((S.out.2.2.2.2).below h)))))
    clear S h
    have S := Lib.hid S2.out
    clear S2
    have r0 := (S.out.2.1).cell' (i := 0) rfl
    have r1 := (S.out.2.1).cell' (i := 1) rfl
    have rl := (S.out.2.1).lt
    have s0 := (S.out.2.2.1).cell' (i := 0) rfl
    have s1 := (S.out.2.2.1).cell' (i := 1) rfl
    have sl := (S.out.2.2.1).lt
    go_wp2_with (fail)
    refine (parts_code n l hl B d _ (S.out.2.2.2.2)).mono ?_
    rintro e V3 ⟨va, rfl, xa, h⟩
    clear r0 r1 rl s0 s1 sl
    have S2 := Lib.hid (And.intro (gr_call (S.out.1) h) (And.intro ((S.out.2.1).call h) (And.intro ((S.out.2.2.1).call h) (And.intro ((S.out.2.2.2.1).below h) (And.intro ((S.out.2.2.2.2).below h) (xa))))))
    clear S h xa
    have S := Lib.hid S2.out
    clear S2
    have r0 := (S.out.2.1).cell' (i := 0) rfl
    have r1 := (S.out.2.1).cell' (i := 1) rfl
    have rl := (S.out.2.1).lt
    have s0 := (S.out.2.2.1).cell' (i := 0) rfl
    have s1 := (S.out.2.2.1).cell' (i := 1) rfl
    have sl := (S.out.2.2.1).lt
    go_wp2_with (fail)
    refine (parts_ref n l hl A c _ (S.out.2.2.2.1)).mono ?_
    rintro e V4 ⟨vb, rfl, xb, h⟩
    clear r0 r1 rl s0 s1 sl
    have S2 := Lib.hid (And.intro (gr_call (S.out.1) h) (And.intro ((S.out.2.1).call h) (And.intro ((S.out.2.2.1).call h) (And.intro ((S.out.2.2.2.1).below h) (And.intro ((S.out.2.2.2.2.1).below h) (And.intro ((S.out.2.2.2.2.2).below h) (xb)))))))
    clear S h xb
    have S := Lib.hid S2.out
    clear S2
    have r0 := (S.out.2.1).cell' (i := 0) rfl
    have r1 := (S.out.2.1).cell' (i := 1) rfl
    have rl := (S.out.2.1).lt
    have s0 := (S.out.2.2.1).cell' (i := 0) rfl
    have s1 := (S.out.2.2.1).cell' (i := 1) rfl
    have sl := (S.out.2.2.1).lt
    go_wp2_with (fail)
    refine (loops_code n l hl B d _ (S.out.2.2.2.2.1)).mono ?_
    rintro e V5 ⟨vc, rfl, xc, h⟩
    clear r0 r1 rl s0 s1 sl
    have S2 := Lib.hid (And.intro (gr_call (S.out.1) h) (And.intro ((S.out.2.1).call h) (And.intro ((S.out.2.2.1).call h) (And.intro ((S.out.2.2.2.1).below h) (And.intro ((S.out.2.2.2.2.1).below h) (And.intro ((S.out.2.2.2.2.2.1).below h) (And.intro ((S.out.2.2.2.2.2.2).below h) (xc))))))))
    clear S h xc
    have S := Lib.hid S2.out
    clear S2
    have r0 := (S.out.2.1).cell' (i := 0) rfl
    have r1 := (S.out.2.1).cell' (i := 1) rfl
    have rl := (S.out.2.1).lt
    have s0 := (S.out.2.2.1).cell' (i := 0) rfl
    have s1 := (S.out.2.2.1).cell' (i := 1) rfl
    have sl := (S.out.2.2.1).lt
    go_wp2_with (fail)
    refine (loops_ref n l hl A c _ (S.out.2.2.2.1)).mono ?_
    rintro e V6 ⟨vd, rfl, xd, h⟩
    clear r0 r1 rl s0 s1 sl
    have S2 := Lib.hid (And.intro (gr_call (S.out.1) h) (And.intro ((S.out.2.1).call h) (And.intro ((S.out.2.2.1).call h) (And.intro ((S.out.2.2.2.1).below h) (And.intro ((S.out.2.2.2.2.1).below h) (And.intro ((S.out.2.2.2.2.2.1).below h) (And.intro ((S.out.2.2.2.2.2.2.1).below h) (And.intro ((S.out.2.2.2.2.2.2.2).below h) (xd)))))))))
    clear S h xd
    have S := Lib.hid S2.out
    clear S2
    have r0 := (S.out.2.1).cell' (i := 0) rfl
    have r1 := (S.out.2.1).cell' (i := 1) rfl
    have rl := (S.out.2.1).lt
    have s0 := (S.out.2.2.1).cell' (i := 0) rfl
    have s1 := (S.out.2.2.1).cell' (i := 1) rfl
    have sl := (S.out.2.2.1).lt
    go_wp2_with (fail)
    refine (same_ll (vParts n l) va vb N.out.1 N.out.2.1 _ (S.out.2.2.2.2.2.1) (S.out.2.2.2.2.2.2.1)).mono ?_
    rintro e V7 ⟨rfl, h⟩
    clear r0 r1 rl s0 s1 sl
    have S2 := Lib.hid (And.intro (gr_call (S.out.1) h) (And.intro ((S.out.2.1).call h) (And.intro ((S.out.2.2.1).call h) (And.intro ((S.out.2.2.2.1).below h) (And.intro ((S.out.2.2.2.2.1).below h) (And.intro ((S.out.2.2.2.2.2.2.2.1).below h) ((S.out.2.2.2.2.2.2.2.2).below h)))))))
    clear S h
    have S := Lib.hid S2.out
    clear S2
    have r0 := (S.out.2.1).cell' (i := 0) rfl
    have r1 := (S.out.2.1).cell' (i := 1) rfl
    have rl := (S.out.2.1).lt
    have s0 := (S.out.2.2.1).cell' (i := 0) rfl
    have s1 := (S.out.2.2.1).cell' (i := 1) rfl
    have sl := (S.out.2.2.1).lt
    go_wp2_with (fail)
    refine (same_b (vLoops n l) vc vd N.out.2.2.1 _ (S.out.2.2.2.2.2.1) (S.out.2.2.2.2.2.2)).mono ?_
    rintro e V8 ⟨rfl, h⟩
    clear r0 r1 rl s0 s1 sl
    have S2 := Lib.hid (And.intro (gr_call (S.out.1) h) (And.intro ((S.out.2.1).call h) (And.intro ((S.out.2.2.1).call h) (And.intro ((S.out.2.2.2.1).below h) ((S.out.2.2.2.2.1).below h)))))
    clear S h
    have S := Lib.hid S2.out
    clear S2
    have r0 := (S.out.2.1).cell' (i := 0) rfl
    have r1 := (S.out.2.1).cell' (i := 1) rfl
    have rl := (S.out.2.1).lt
    have s0 := (S.out.2.2.1).cell' (i := 0) rfl
    have s1 := (S.out.2.2.1).cell' (i := 1) rfl
    have sl := (S.out.2.2.1).lt
    go_wp2_with (fail)
    refine (order_code n l hl B d _ (S.out.2.2.2.2)).mono ?_
    rintro e V9 ⟨va, rfl, xa, h⟩
    clear r0 r1 rl s0 s1 sl
    have S2 := Lib.hid (And.intro (gr_call (S.out.1) h) (And.intro ((S.out.2.1).call h) (And.intro ((S.out.2.2.1).call h) (And.intro ((S.out.2.2.2.1).below h) (And.intro ((S.out.2.2.2.2).below h) (xa))))))
    clear S h xa
    have S := Lib.hid S2.out
    clear S2
    have r0 := (S.out.2.1).cell' (i := 0) rfl
    have r1 := (S.out.2.1).cell' (i := 1) rfl
    have rl := (S.out.2.1).lt
    have s0 := (S.out.2.2.1).cell' (i := 0) rfl
    have s1 := (S.out.2.2.1).cell' (i := 1) rfl
    have sl := (S.out.2.2.1).lt
    go_wp2_with (fail)
    refine (order_ref n l hl A c _ (S.out.2.2.2.1)).mono ?_
    rintro e V10 ⟨vb, rfl, xb, h⟩
    clear r0 r1 rl s0 s1 sl
    have S2 := Lib.hid (And.intro (gr_call (S.out.1) h) (And.intro ((S.out.2.1).call h) (And.intro ((S.out.2.2.1).call h) (And.intro ((S.out.2.2.2.1).below h) (And.intro ((S.out.2.2.2.2.1).below h) (And.intro ((S.out.2.2.2.2.2).below h) (xb)))))))
    clear S h xb
    have S := Lib.hid S2.out
    clear S2
    have r0 := (S.out.2.1).cell' (i := 0) rfl
    have r1 := (S.out.2.1).cell' (i := 1) rfl
    have rl := (S.out.2.1).lt
    have s0 := (S.out.2.2.1).cell' (i := 0) rfl
    have s1 := (S.out.2.2.1).cell' (i := 1) rfl
    have sl := (S.out.2.2.1).lt
    go_wp2_with (fail)
    refine (levels_code n l hl B d _ (S.out.2.2.2.2.1)).mono ?_
    rintro e V11 ⟨vc, rfl, xc, h⟩
    clear r0 r1 rl s0 s1 sl
    have S2 := Lib.hid (And.intro (gr_call (S.out.1) h) (And.intro ((S.out.2.1).call h) (And.intro ((S.out.2.2.1).call h) (And.intro ((S.out.2.2.2.1).below h) (And.intro ((S.out.2.2.2.2.1).below h) (And.intro ((S.out.2.2.2.2.2.1).below h) (And.intro ((S.out.2.2.2.2.2.2).below h) (xc))))))))
    clear S h xc
    have S := Lib.hid S2.out
    clear S2
    have r0 := (S.out.2.1).cell' (i := 0) rfl
    have r1 := (S.out.2.1).cell' (i := 1) rfl
    have rl := (S.out.2.1).lt
    have s0 := (S.out.2.2.1).cell' (i := 0) rfl
    have s1 := (S.out.2.2.1).cell' (i := 1) rfl
    have sl := (S.out.2.2.1).lt
    go_wp2_with (fail)
    refine (levels_ref n l hl A c _ (S.out.2.2.2.1)).mono ?_
    rintro e V12 ⟨vd, rfl, xd, h⟩
    clear r0 r1 rl s0 s1 sl
    have S2 := Lib.hid (And.intro (gr_call (S.out.1) h) (And.intro ((S.out.2.1).call h) (And.intro ((S.out.2.2.1).call h) (And.intro ((S.out.2.2.2.1).below h) (And.intro ((S.out.2.2.2.2.1).below h) (And.intro ((S.out.2.2.2.2.2.1).below h) (And.intro ((S.out.2.2.2.2.2.2.1).below h) (And.intro ((S.out.2.2.2.2.2.2.2).below h) (xd)))))))))
    clear S h xd
    have S := Lib.hid S2.out
    clear S2
    have r0 := (S.out.2.1).cell' (i := 0) rfl
    have r1 := (S.out.2.1).cell' (i := 1) rfl
    have rl := (S.out.2.1).lt
    have s0 := (S.out.2.2.1).cell' (i := 0) rfl
    have s1 := (S.out.2.2.1).cell' (i := 1) rfl
    have sl := (S.out.2.2.1).lt
    go_wp2_with (fail)
    refine (same_n (vOrder n l) va vb N.out.2.2.2.1 _ (S.out.2.2.2.2.2.1) (S.out.2.2.2.2.2.2.1)).mono ?_
    rintro e V13 ⟨rfl, h⟩
    clear r0 r1 rl s0 s1 sl
    have S2 := Lib.hid (And.intro (gr_call (S.out.1) h) (And.intro ((S.out.2.1).call h) (And.intro ((S.out.2.2.1).call h) (And.intro ((S.out.2.2.2.1).below h) (And.intro ((S.out.2.2.2.2.1).below h) (And.intro ((S.out.2.2.2.2.2.2.2.1).below h) ((S.out.2.2.2.2.2.2.2.2).below h)))))))
    clear S h
    have S := Lib.hid S2.out
    clear S2
    have r0 := (S.out.2.1).cell' (i := 0) rfl
    have r1 := (S.out.2.1).cell' (i := 1) rfl
    have rl := (S.out.2.1).lt
    have s0 := (S.out.2.2.1).cell' (i := 0) rfl
    have s1 := (S.out.2.2.1).cell' (i := 1) rfl
    have sl := (S.out.2.2.1).lt
    go_wp2_with (fail)
    refine (same_n (vLevels n l) vc vd N.out.2.2.2.2.1 _ (S.out.2.2.2.2.2.1) (S.out.2.2.2.2.2.2)).mono ?_
    rintro e V14 ⟨rfl, h⟩
    clear r0 r1 rl s0 s1 sl
    have S2 := Lib.hid (And.intro (gr_call (S.out.1) h) (And.intro ((S.out.2.1).call h) (And.intro ((S.out.2.2.1).call h) (And.intro ((S.out.2.2.2.1).below h) ((S.out.2.2.2.2.1).below h)))))
    clear S h
    have S := Lib.hid S2.out
    clear S2
    have r0 := (S.out.2.1).cell' (i := 0) rfl
    have r1 := (S.out.2.1).cell' (i := 1) rfl
    have rl := (S.out.2.1).lt
    have s0 := (S.out.2.2.1).cell' (i := 0) rfl
    have s1 := (S.out.2.2.1).cell' (i := 1) rfl
    have sl := (S.out.2.2.1).lt
    go_wp2_with (fail)
    refine (condense_code n l hl B d _ (S.out.2.2.2.2)).mono ?_
    rintro e V15 ⟨v, rfl, ⟨Ma, Mc, rfl, xm⟩, h⟩
    clear r0 r1 rl s0 s1 sl
    have S2 := Lib.hid (And.intro (gr_call (S.out.1) h) (And.intro ((S.out.2.1).call h) (And.intro ((S.out.2.2.1).call h) (And.intro ((S.out.2.2.2.1).below h) (And.intro ((S.out.2.2.2.2).below h) (xm))))))
    clear S h xm
    have S := Lib.hid S2.out
    clear S2
    have r0 := (S.out.2.1).cell' (i := 0) rfl
    have r1 := (S.out.2.1).cell' (i := 1) rfl
    have rl := (S.out.2.1).lt
    have s0 := (S.out.2.2.1).cell' (i := 0) rfl
    have s1 := (S.out.2.2.1).cell' (i := 1) rfl
    have sl := (S.out.2.2.1).lt
    have h := gr_alloc (Below.refl V15.heap.size V15) (.cells #[.int .i64 (vCondN n l), .slice Ma (vCond n l).length Mc] 24)
    have bmb := Blk.new V15 24 #[.int .i64 (vCondN n l), .slice Ma (vCond n l).length Mc]
    clear r0 r1 rl s0 s1 sl
    have S2 := Lib.hid (And.intro (gr_call (S.out.1) h) (And.intro ((S.out.2.1).call h) (And.intro ((S.out.2.2.1).call h) (And.intro ((S.out.2.2.2.1).below h) (And.intro ((S.out.2.2.2.2.1).below h) (And.intro ((S.out.2.2.2.2.2).below h) (bmb)))))))
    clear S h bmb
    have S := Lib.hid S2.out
    clear S2
    have r0 := (S.out.2.1).cell' (i := 0) rfl
    have r1 := (S.out.2.1).cell' (i := 1) rfl
    have rl := (S.out.2.1).lt
    have s0 := (S.out.2.2.1).cell' (i := 0) rfl
    have s1 := (S.out.2.2.1).cell' (i := 1) rfl
    have sl := (S.out.2.2.1).lt
    have bm0 := (S.out.2.2.2.2.2.2).cell' (i := 0) rfl
    have bm1 := (S.out.2.2.2.2.2.2).cell' (i := 1) rfl
    have bml := (S.out.2.2.2.2.2.2).lt
    go_wp2_with (fail)
    refine (condense_ref n l hl A c _ (S.out.2.2.2.1)).mono ?_
    rintro e V16 ⟨v, rfl, ⟨Na, Nc, rfl, xn⟩, h⟩
    clear r0 r1 rl s0 s1 sl bm0 bm1 bml
    have S2 := Lib.hid (And.intro (gr_call (S.out.1) h) (And.intro ((S.out.2.1).call h) (And.intro ((S.out.2.2.1).call h) (And.intro ((S.out.2.2.2.1).below h) (And.intro ((S.out.2.2.2.2.1).below h) (And.intro ((S.out.2.2.2.2.2.1).below h) (And.intro ((S.out.2.2.2.2.2.2).call h) (xn))))))))
    clear S h xn
    have S := Lib.hid S2.out
    clear S2
    have r0 := (S.out.2.1).cell' (i := 0) rfl
    have r1 := (S.out.2.1).cell' (i := 1) rfl
    have rl := (S.out.2.1).lt
    have s0 := (S.out.2.2.1).cell' (i := 0) rfl
    have s1 := (S.out.2.2.1).cell' (i := 1) rfl
    have sl := (S.out.2.2.1).lt
    have bm0 := (S.out.2.2.2.2.2.2.1).cell' (i := 0) rfl
    have bm1 := (S.out.2.2.2.2.2.2.1).cell' (i := 1) rfl
    have bml := (S.out.2.2.2.2.2.2.1).lt
    have h := gr_alloc (Below.refl V16.heap.size V16) (.cells #[.int .i64 (vCondN n l), .slice Na (vCond n l).length Nc] 24)
    have bnb := Blk.new V16 24 #[.int .i64 (vCondN n l), .slice Na (vCond n l).length Nc]
    clear r0 r1 rl s0 s1 sl bm0 bm1 bml
    have S2 := Lib.hid (And.intro (gr_call (S.out.1) h) (And.intro ((S.out.2.1).call h) (And.intro ((S.out.2.2.1).call h) (And.intro ((S.out.2.2.2.1).below h) (And.intro ((S.out.2.2.2.2.1).below h) (And.intro ((S.out.2.2.2.2.2.1).below h) (And.intro ((S.out.2.2.2.2.2.2.1).call h) (And.intro ((S.out.2.2.2.2.2.2.2).below h) (bnb)))))))))
    clear S h bnb
    have S := Lib.hid S2.out
    clear S2
    have r0 := (S.out.2.1).cell' (i := 0) rfl
    have r1 := (S.out.2.1).cell' (i := 1) rfl
    have rl := (S.out.2.1).lt
    have s0 := (S.out.2.2.1).cell' (i := 0) rfl
    have s1 := (S.out.2.2.1).cell' (i := 1) rfl
    have sl := (S.out.2.2.1).lt
    have bm0 := (S.out.2.2.2.2.2.2.1).cell' (i := 0) rfl
    have bm1 := (S.out.2.2.2.2.2.2.1).cell' (i := 1) rfl
    have bml := (S.out.2.2.2.2.2.2.1).lt
    have bn0 := (S.out.2.2.2.2.2.2.2.2).cell' (i := 0) rfl
    have bn1 := (S.out.2.2.2.2.2.2.2.2).cell' (i := 1) rfl
    have bnl := (S.out.2.2.2.2.2.2.2.2).lt
    go_wp2_with (fail)
    refine (same_g (vCondN n l) (vCond n l) Ma Na Mc Nc N.out.2.2.2.2.2 _ (S.out.2.2.2.2.2.1) (S.out.2.2.2.2.2.2.2.1)).mono ?_
    rintro e V17 ⟨rfl, h⟩
    clear r0 r1 rl s0 s1 sl bm0 bm1 bml bn0 bn1 bnl
    have S2 := Lib.hid (And.intro (gr_call (S.out.1) h) (And.intro ((S.out.2.1).call h) (And.intro ((S.out.2.2.1).call h) (And.intro ((S.out.2.2.2.1).below h) (And.intro ((S.out.2.2.2.2.1).below h) (And.intro ((S.out.2.2.2.2.2.1).below h) (And.intro ((S.out.2.2.2.2.2.2.1).call h) (And.intro ((S.out.2.2.2.2.2.2.2.1).below h) ((S.out.2.2.2.2.2.2.2.2).call h)))))))))
    clear S h
    have S := Lib.hid S2.out
    clear S2
    have r0 := (S.out.2.1).cell' (i := 0) rfl
    have r1 := (S.out.2.1).cell' (i := 1) rfl
    have rl := (S.out.2.1).lt
    have s0 := (S.out.2.2.1).cell' (i := 0) rfl
    have s1 := (S.out.2.2.1).cell' (i := 1) rfl
    have sl := (S.out.2.2.1).lt
    have bm0 := (S.out.2.2.2.2.2.2.1).cell' (i := 0) rfl
    have bm1 := (S.out.2.2.2.2.2.2.1).cell' (i := 1) rfl
    have bml := (S.out.2.2.2.2.2.2.1).lt
    have bn0 := (S.out.2.2.2.2.2.2.2.2).cell' (i := 0) rfl
    have bn1 := (S.out.2.2.2.2.2.2.2.2).cell' (i := 1) rfl
    have bnl := (S.out.2.2.2.2.2.2.2.2).lt
    go_wp2_with (fail)
    refine (same_g n l B A d c hl _ (S.out.2.2.2.2.1) (S.out.2.2.2.1)).mono ?_
    rintro e V18 ⟨rfl, h⟩
    clear r0 r1 rl s0 s1 sl bm0 bm1 bml bn0 bn1 bnl
    have S2 := Lib.hid (And.intro (gr_call (S.out.1) h) (And.intro ((S.out.2.1).call h) (And.intro ((S.out.2.2.1).call h) (And.intro ((S.out.2.2.2.1).below h) (And.intro ((S.out.2.2.2.2.1).below h) (And.intro ((S.out.2.2.2.2.2.1).below h) (And.intro ((S.out.2.2.2.2.2.2.1).call h) (And.intro ((S.out.2.2.2.2.2.2.2.1).below h) ((S.out.2.2.2.2.2.2.2.2).call h)))))))))
    clear S h
    have S := Lib.hid S2.out
    clear S2
    have r0 := (S.out.2.1).cell' (i := 0) rfl
    have r1 := (S.out.2.1).cell' (i := 1) rfl
    have rl := (S.out.2.1).lt
    have s0 := (S.out.2.2.1).cell' (i := 0) rfl
    have s1 := (S.out.2.2.1).cell' (i := 1) rfl
    have sl := (S.out.2.2.1).lt
    have bm0 := (S.out.2.2.2.2.2.2.1).cell' (i := 0) rfl
    have bm1 := (S.out.2.2.2.2.2.2.1).cell' (i := 1) rfl
    have bml := (S.out.2.2.2.2.2.2.1).lt
    have bn0 := (S.out.2.2.2.2.2.2.2.2).cell' (i := 0) rfl
    have bn1 := (S.out.2.2.2.2.2.2.2.2).cell' (i := 1) rfl
    have bnl := (S.out.2.2.2.2.2.2.2.2).lt
    go_wp2_with (fail)
    refine (awake_law _).mono ?_
    rintro e WZ ⟨rfl, h⟩
    have Z := Lib.hid (gr_call (S.out.1) h)
    clear h
    go_wp2_with (fail)
    go_ret
    exact ⟨rfl, Z.out⟩
end Go.Proofs.Ytjgkiiohbceocaa
