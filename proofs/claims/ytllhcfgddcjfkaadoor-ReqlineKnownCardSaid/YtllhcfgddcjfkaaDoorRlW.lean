/-
  The code's wrong, walked; no condition.
-/
import Derived.Test.YtllhcfgddcjfkaaDoorRlC
import Derived.Test.YtllhcfgddcjfkaaDoorRlA
namespace Go.Proofs.YtllhcfgddcjfkaaDoor
open Go.RowKit
set_option linter.unusedVariables false
set_option linter.unusedSimpArgs false

/-- How far the checks have come. -/
def WrRel (a b c : ByteArray) (N : Int) (w : World) (X : Nat) (k : Value) (wr : World) : Prop :=
  ∃ j : Nat, j ≤ 2 ∧ (j : Int) < N ∧ k = .int .i64 (j : Int) ∧ (0 < j → atA a = a.size ∧ a.size ≠ 0) ∧ (1 < j → atB b = b.size ∧ b.size ≠ 0) ∧
    Blk wr X 54 #[.string a, .string b, .string c, .int .i64 N] ∧ Below w.heap.size w wr

set_option maxRecDepth 100000 in
set_option maxHeartbeats 4000000 in
theorem wrong_core (a b c : ByteArray) (N R : Int) (ha : a.size ≤ 1000000) (hb : b.size ≤ 1000000) (hc : c.size ≤ 1000000) (hN : N = 1 ∨ N = 2 ∨ N = 3)
    (r1 : atA a < a.size → R = (atA a : Int)) (r2 : a.size = 0 → 1 < N → R = 0) (r3 : N = 1 → atA a = a.size → R = -1)
    (r4 : 1 < N → atA a = a.size → a.size ≠ 0 → atB b < b.size → R = ((a.size + 1 + atB b : Nat) : Int))
    (r5 : N = 3 → atA a = a.size → a.size ≠ 0 → b.size = 0 → R = ((a.size + 1 : Nat) : Int))
    (r6 : N = 2 → atA a = a.size → a.size ≠ 0 → atB b = b.size → R = -1)
    (r7 : N = 3 → atA a = a.size → a.size ≠ 0 → atB b = b.size → b.size ≠ 0 → atC c < c.size → R = ((a.size + 1 + (b.size + 1) + atC c : Nat) : Int))
    (r8 : N = 3 → atA a = a.size → a.size ≠ 0 → atB b = b.size → b.size ≠ 0 → atC c = c.size → R = -1) (w : World) :
    Calls Tryd.prog 30 #[.agg #[.string a, .string b, .string c, .int .i64 N]] w fun e W' => e = .returned (.int .i64 R) ∧ Below w.heap.size w W' := by
  have HR := Lib.hid (And.intro r1 (And.intro r2 (And.intro r3 (And.intro r4 (And.intro r5 (And.intro r6 (And.intro r7 r8)))))))
  have z0 := gr_alloc (Below.refl w.heap.size w) (.cells #[.string a, .string b, .string c, .int .i64 N] 54)
  have b0 := Blk.new w 54 #[.string a, .string b, .string c, .int .i64 N]
  have u0 := b0.cell' (i := 0) rfl
  have u1 := b0.cell' (i := 1) rfl
  have u2 := b0.cell' (i := 2) rfl
  have u3 := b0.cell' (i := 3) rfl
  have ul := b0.lt
  have HZ := Lib.hid (And.intro b0 z0)
  have HN := Lib.hid hN
  have q0 := atA_le a
  have q1 := atB_le b
  have q2 := atC_le c
  have HQ := Lib.hid (And.intro q0 (And.intro q1 q2))
  clear z0 b0 r1 r2 r3 r4 r5 r6 r7 r8 q0 q1 q2 hN
  have i0 : ∀ x W, (Instr.index 60 (.agg #[.func (.func 38) #[x] #[], .func (.func 35) #[x] #[], .func (.func 39) #[x] #[]]) (.int .i64 0)).run Tryd.prog W = .ok (.func (.func 38) #[x] #[]) W := fun _ _ => by kernel_rfl
  have i1 : ∀ x W, (Instr.index 60 (.agg #[.func (.func 38) #[x] #[], .func (.func 35) #[x] #[], .func (.func 39) #[x] #[]]) (.int .i64 1)).run Tryd.prog W = .ok (.func (.func 35) #[x] #[]) W := fun _ _ => by kernel_rfl
  have i2 : ∀ x W, (Instr.index 60 (.agg #[.func (.func 38) #[x] #[], .func (.func 35) #[x] #[], .func (.func 39) #[x] #[]]) (.int .i64 2)).run Tryd.prog W = .ok (.func (.func 39) #[x] #[]) W := fun _ _ => by kernel_rfl
  go_enter Tryd.func30, Tryd.ntmps30
  go_wp2_with (fail)
  clear u0 u1 u2 u3 ul
  go_loopw [13] (fun k wr => WrRel a b c N w w.heap.size k wr) (fun k _ => 3 - (intOf k).toNat)
  case atStart => exact ⟨0, by omega, by have := HN.out; omega, rfl, by omega, by omega, HZ.out.1, HZ.out.2⟩
  case round =>
    obtain ⟨j, hj, hjN, rfl, ja, jb, hblk, hbel⟩ := hrel
    have x0 := hblk.cell' (i := 0) rfl
    have x1 := hblk.cell' (i := 1) rfl
    have x2 := hblk.cell' (i := 2) rfl
    have x3 := hblk.cell' (i := 3) rfl
    have hl := hblk.lt
    have HB := Lib.hid (And.intro hblk hbel)
    have HJ := Lib.hid (And.intro ja jb)
    clear hblk hbel ja jb
    have hj4 : j = 0 ∨ j = 1 ∨ j = 2 := by omega
    rcases hj4 with rfl | rfl | rfl
    · go_wp2_with (fail)
      refine (bmethod a b c N ha _).mono ?_
      rintro e W1 ⟨rfl, h1⟩
      have y := HB.out.1.call h1
      have y0 := y.cell' (i := 0) rfl
      have y1 := y.cell' (i := 1) rfl
      have y2 := y.cell' (i := 2) rfl
      have y3 := y.cell' (i := 3) rfl
      have yl := y.lt
      have HY := Lib.hid y
      have H1 := Lib.hid (gr_call HB.out.2 h1)
      clear h1 x0 x1 x2 x3 hl y
      obtain ⟨q, hq⟩ : ∃ q, q = atA a := ⟨_, rfl⟩
      have hqs : q ≤ a.size := by rw [hq]; exact HQ.out.1
      rw [← hq]
      have HQE := Lib.hid hq
      clear hq
      by_cases hlt : (q : Int) < (a.size : Int)
      · go_wp2_with (fail)
        refine (bfrom a b c N 0 (by omega) ha hb _).mono ?_
        rintro e W2 ⟨rfl, h2⟩
        have H2 := Lib.hid (gr_call H1.out h2)
        clear h2
        unfold fromN
        go_wp2_with (fail)
        go_ret
        refine ⟨?_, H2.out⟩
        rw [HR.out.1 (by rw [← HQE.out]; omega), ← HQE.out]
        simp
      · have e : q = a.size := by omega
        by_cases hz : q = 0
        · have qz : ((q : Int) == 0) = true := by simp; omega
          have e0 : a.size = 0 := by omega
          have HE := Lib.hid (And.intro e (And.intro hz e0))
          clear hz e0
          rcases HN.out with rfl | rfl | rfl
          · go_wp2_with (fail)
            go_ret
            refine ⟨?_, H1.out⟩
            rw [HR.out.2.2.1 (by decide) (by rw [← HQE.out]; exact HE.out.1)] <;> rfl
          · go_wp2_with (fail)
            refine (bfrom a b c 2 0 (by omega) ha hb _).mono ?_
            rintro e W2 ⟨rfl, h2⟩
            have H2 := Lib.hid (gr_call H1.out h2)
            clear h2
            unfold fromN
            go_wp2_with (fail)
            go_ret
            refine ⟨?_, H2.out⟩
            rw [HR.out.2.1 HE.out.2.2 (by omega)] <;> rfl
          · go_wp2_with (fail)
            refine (bfrom a b c 3 0 (by omega) ha hb _).mono ?_
            rintro e W2 ⟨rfl, h2⟩
            have H2 := Lib.hid (gr_call H1.out h2)
            clear h2
            unfold fromN
            go_wp2_with (fail)
            go_ret
            refine ⟨?_, H2.out⟩
            rw [HR.out.2.1 HE.out.2.2 (by omega)] <;> rfl
        · have qz : ((q : Int) == 0) = false := by simp; omega
          have e0 : a.size ≠ 0 := by omega
          have HE := Lib.hid (And.intro e (And.intro hz e0))
          clear hz e0
          rcases HN.out with rfl | rfl | rfl
          · go_wp2_with (fail)
            go_ret
            refine ⟨?_, H1.out⟩
            rw [HR.out.2.2.1 (by decide) (by rw [← HQE.out]; exact HE.out.1)] <;> rfl
          · go_wp2_with (fail)
            exact ⟨⟨1, by omega, by omega, rfl, fun _ => ⟨by rw [← HQE.out]; exact HE.out.1, HE.out.2.2⟩, by omega, HY.out, H1.out⟩, by simp [intOf]⟩
          · go_wp2_with (fail)
            exact ⟨⟨1, by omega, by omega, rfl, fun _ => ⟨by rw [← HQE.out]; exact HE.out.1, HE.out.2.2⟩, by omega, HY.out, H1.out⟩, by simp [intOf]⟩
    · go_wp2_with (fail)
      refine (btarget a b c N hb _).mono ?_
      rintro e W1 ⟨rfl, h1⟩
      have y := HB.out.1.call h1
      have y0 := y.cell' (i := 0) rfl
      have y1 := y.cell' (i := 1) rfl
      have y2 := y.cell' (i := 2) rfl
      have y3 := y.cell' (i := 3) rfl
      have yl := y.lt
      have HY := Lib.hid y
      have H1 := Lib.hid (gr_call HB.out.2 h1)
      clear h1 x0 x1 x2 x3 hl y
      obtain ⟨q, hq⟩ : ∃ q, q = atB b := ⟨_, rfl⟩
      have hqs : q ≤ b.size := by rw [hq]; exact HQ.out.2.1
      rw [← hq]
      have HQE := Lib.hid hq
      clear hq
      by_cases hlt : (q : Int) < (b.size : Int)
      · go_wp2_with (fail)
        refine (bfrom a b c N 1 (by omega) ha hb _).mono ?_
        rintro e W2 ⟨rfl, h2⟩
        have H2 := Lib.hid (gr_call H1.out h2)
        clear h2
        unfold fromN
        go_wp2_with (fail)
        go_ret
        refine ⟨?_, H2.out⟩
        rw [HR.out.2.2.2.1 (by omega) (HJ.out.1 (by omega)).1 (HJ.out.1 (by omega)).2 (by rw [← HQE.out]; omega), ← HQE.out]
        simp
      · have e : q = b.size := by omega
        by_cases hz : q = 0
        · have qz : ((q : Int) == 0) = true := by simp; omega
          have e0 : b.size = 0 := by omega
          have HE := Lib.hid (And.intro e (And.intro hz e0))
          clear hz e0
          rcases HN.out with rfl | rfl | rfl
          · omega
          · go_wp2_with (fail)
            go_ret
            refine ⟨?_, H1.out⟩
            rw [HR.out.2.2.2.2.2.1 (by decide) (HJ.out.1 (by omega)).1 (HJ.out.1 (by omega)).2 (by rw [← HQE.out]; exact HE.out.1)] <;> rfl
          · go_wp2_with (fail)
            refine (bfrom a b c 3 1 (by omega) ha hb _).mono ?_
            rintro e W2 ⟨rfl, h2⟩
            have H2 := Lib.hid (gr_call H1.out h2)
            clear h2
            unfold fromN
            go_wp2_with (fail)
            go_ret
            refine ⟨?_, H2.out⟩
            rw [HR.out.2.2.2.2.1 (by decide) (HJ.out.1 (by omega)).1 (HJ.out.1 (by omega)).2 HE.out.2.2] <;> rfl
        · have qz : ((q : Int) == 0) = false := by simp; omega
          have e0 : b.size ≠ 0 := by omega
          have HE := Lib.hid (And.intro e (And.intro hz e0))
          clear hz e0
          rcases HN.out with rfl | rfl | rfl
          · omega
          · go_wp2_with (fail)
            go_ret
            refine ⟨?_, H1.out⟩
            rw [HR.out.2.2.2.2.2.1 (by decide) (HJ.out.1 (by omega)).1 (HJ.out.1 (by omega)).2 (by rw [← HQE.out]; exact HE.out.1)] <;> rfl
          · go_wp2_with (fail)
            exact ⟨⟨2, by omega, by omega, rfl, fun _ => HJ.out.1 (by omega), fun _ => ⟨by rw [← HQE.out]; exact HE.out.1, HE.out.2.2⟩, HY.out, H1.out⟩, by simp [intOf]⟩
    · go_wp2_with (fail)
      refine (bversion a b c N hc _).mono ?_
      rintro e W1 ⟨rfl, h1⟩
      have y := HB.out.1.call h1
      have y0 := y.cell' (i := 0) rfl
      have y1 := y.cell' (i := 1) rfl
      have y2 := y.cell' (i := 2) rfl
      have y3 := y.cell' (i := 3) rfl
      have yl := y.lt
      have HY := Lib.hid y
      have H1 := Lib.hid (gr_call HB.out.2 h1)
      clear h1 x0 x1 x2 x3 hl y
      obtain ⟨q, hq⟩ : ∃ q, q = atC c := ⟨_, rfl⟩
      have hqs : q ≤ c.size := by rw [hq]; exact HQ.out.2.2
      rw [← hq]
      have HQE := Lib.hid hq
      clear hq
      by_cases hlt : (q : Int) < (c.size : Int)
      · go_wp2_with (fail)
        refine (bfrom a b c N 2 (by omega) ha hb _).mono ?_
        rintro e W2 ⟨rfl, h2⟩
        have H2 := Lib.hid (gr_call H1.out h2)
        clear h2
        unfold fromN
        go_wp2_with (fail)
        go_ret
        refine ⟨?_, H2.out⟩
        rw [HR.out.2.2.2.2.2.2.1 (by have := HN.out; omega) (HJ.out.1 (by omega)).1 (HJ.out.1 (by omega)).2 (HJ.out.2 (by omega)).1 (HJ.out.2 (by omega)).2 (by rw [← HQE.out]; omega), ← HQE.out]
        simp
      · have e : q = c.size := by omega
        have HE := Lib.hid e
        rcases HN.out with rfl | rfl | rfl
        · omega
        · omega
        · go_wp2_with (fail)
          go_ret
          refine ⟨?_, H1.out⟩
          rw [HR.out.2.2.2.2.2.2.2 (by decide) (HJ.out.1 (by omega)).1 (HJ.out.1 (by omega)).2 (HJ.out.2 (by omega)).1 (HJ.out.2 (by omega)).2 (by rw [← HQE.out]; exact HE.out)] <;> rfl

/-- What the code's wrong returns. -/
def wrongI (G : Nat → Nat) (n : Nat) : Int := if wrongN G n < n then (wrongN G n : Int) else -1
theorem wrongI_is {G : Nat → Nat} {n k : Nat} (h : wrongN G n = k ∧ k < n) : wrongI G n = (k : Int) := by
  unfold wrongI; rw [h.1, if_pos h.2]
theorem wrongI_no {G : Nat → Nat} {n : Nat} (h : wrongN G n = n) : wrongI G n = -1 := by
  unfold wrongI; rw [h, if_neg (by omega)]
theorem bwrong (s : ByteArray) (hs : s.size ≤ 1000000) (w : World) :
    Calls Tryd.prog 30 #[.agg #[.string (pA s), .string (pB s), .string (pC s), .int .i64 (partN (byS s) s.size : Int)]] w fun e W' => e = .returned (.int .i64 (wrongI (byS s) s.size)) ∧ Below w.heap.size w W' := by
  have za := pA_size s
  have zb := pB_size s
  have zc := pC_size s
  have la := spA_le (byS s) s.size
  have lb := spB_le (byS s) s.size
  have hb : lenB (byS s) s.size ≤ s.size := by unfold lenB; omega
  have hc : lenC (byS s) s.size ≤ s.size := by unfold lenC; omega
  have p1 := partN_1 (G := byS s) (n := s.size)
  have p2 := partN_2 (G := byS s) (n := s.size)
  have p3 := partN_3 (G := byS s) (n := s.size)
  have hw := partN_ways (byS s) s.size
  have n3 : (partN (byS s) s.size : Int) = 3 → spB (byS s) s.size < s.size := fun h => p3.1 (by omega)
  have n1 : 1 < (partN (byS s) s.size : Int) → spA (byS s) s.size < s.size := fun h => by
    rcases Nat.lt_or_ge (spA (byS s) s.size) s.size with k | k
    · exact k
    · have := p1.2 (by omega); omega
  refine wrong_core _ _ _ _ _ (by omega) (by omega) (by omega) (by omega) ?_ ?_ ?_ ?_ ?_ ?_ ?_ ?_ w
  · exact fun h => wrongI_is (wrong_1 h)
  · exact fun h k => wrongI_is (k := 0) ⟨wrong_2 (by omega) (n1 k), by have := n1 k; omega⟩
  · exact fun h k => wrongI_no (wrong_3 (p1.1 (by omega)) k)
  · exact fun h k k2 k3 => wrongI_is (wrong_4 (n1 h) k k2 k3)
  · exact fun h k k2 k3 => wrongI_is (wrong_5 k k2 (by have := atB_le (pB s); omega) k3 (n3 h))
  · exact fun h k k2 k3 => wrongI_no (wrong_6 k k2 k3 (p2.1 (by omega)).2 (p2.1 (by omega)).1)
  · exact fun h k k2 k3 k4 k5 => wrongI_is (wrong_7 k k2 k3 k4 (n3 h) k5)
  · exact fun h k k2 k3 k4 k5 => wrongI_no (wrong_8 k k2 k3 k4 (n3 h) k5)
end Go.Proofs.YtllhcfgddcjfkaaDoor
