/-
  BytesetMakes, walked: it returns true, whatever the input; condition: the library's table lies as it is laid.
-/
import Derived.Test.YtcfdadgijnmemaaDoorSetMk
namespace Go.Proofs.YtcfdadgijnmemaaDoor
open Go.RowKit
set_option linter.unusedVariables false
set_option linter.unusedSimpArgs false

set_option maxRecDepth 100000 in
set_option maxHeartbeats 2000000 in
theorem makes_long (A1 A2 A3 : Option Addr) (n1 n2 n3 c1 c2 c3 : Nat) (h1 : (40 : Int) < n1 ∨ (40 : Int) < n2 ∨ (40 : Int) < n3) (w : World) (hT : TabOk w) (hw : 0 < w.heap.size) :
    Calls Tryd.prog 3 #[.slice A1 n1 c1, .slice A2 n2 c2, .slice A3 n3 c3] w fun e w' => e = .returned (.bool true) ∧ Below w.heap.size w w' := by
  have HT := Lib.hid (And.intro hT h1)
  clear hT
  by_cases a1 : (40 : Int) < n1 <;> by_cases a2 : (40 : Int) < n2 <;> by_cases a3 : (40 : Int) < n3
  all_goals first
    | (exfalso; omega)
    | skip
  all_goals (
    clear h1
    go_enter Tryd.func3, Tryd.ntmps3
    go_wp2_with (fail)
    refine (awake _ HT.out.1 hw).mono ?_
    rintro e W1 ⟨rfl, h1⟩
    have HH := Lib.hid h1
    clear h1
    go_wp2_with (fail)
    go_ret
    exact ⟨rfl, HH.out⟩)

set_option maxRecDepth 100000 in
set_option maxHeartbeats 2000000 in
theorem makes_short (A1 A2 A3 : Option Addr) (n1 n2 n3 c1 c2 c3 : Nat) (Z L H : Nat → Nat) (S : Nat → Nat → Bool) (hZ : ∀ i, Z i < 256) (hL : ∀ i, L i < 256) (hH : ∀ i, H i < 256)
    (h1 : ¬ (40 : Int) < n1) (h2 : ¬ (40 : Int) < n2) (h3 : ¬ (40 : Int) < n3) (w : World) (hA1 : ArgOk A1 n1 c1) (hA2 : ArgOk A2 n2 c2) (hA3 : ArgOk A3 n3 c3)
    (k1 : Cells w A1 1 n1 (byteAt Z)) (k2 : Cells w A2 2 n2 (rngAt L H)) (k3 : Cells w A3 4 n3 (setAt S)) (hT : TabOk w) (hw : 0 < w.heap.size) :
    Calls Tryd.prog 3 #[.slice A1 n1 c1, .slice A2 n2 c2, .slice A3 n3 c3] w fun e w' => e = .returned (.bool true) ∧ Below w.heap.size w w' := by
  have TB : Hid (∀ W : World, Below w.heap.size w W → TabOk W ∧ 0 < W.heap.size) := Lib.hid (fun W h => ⟨hT.below h hw, Nat.lt_of_lt_of_le hw h.size⟩)
  obtain ⟨i1, hi1, hz10, hz11, hz12⟩ := info_parts infoByte
  obtain ⟨i2, hi2, hz20, hz21, hz22⟩ := info_parts infoRange
  obtain ⟨i3, hi3, hz30, hz31, hz32⟩ := info_parts infoSet
  have HZ := Lib.hid (And.intro hZ (And.intro hL hH))
  have HK := Lib.hid (And.intro k1 (And.intro k2 k3))
  have HA := Lib.hid (And.intro hA1 (And.intro hA2 hA3))
  clear hZ hL hH k1 k2 k3 hA1 hA2 hA3 hT
  go_enter Tryd.func3, Tryd.ntmps3
  go_wp2_with (at_builtin; refine append_any rfl _ _ 22 rfl w.heap.size 5 i1 (.int .u8 0) 1 1 Tryd.underlying22 hi1 hz10 hz11 hz12 rfl (by decide) _ rfl (own_empty w w.heap.size 5 1 (Nat.le_refl _)) A1 n1 c1 (byteAt Z) rfl HA.out.1 ?c1 ?c2 ?c3 ?c4 ?c5 ?_)
  case c1 => exact HK.out.1.below ((Below.refl w.heap.size w).alloc (Nat.le_refl _) _)
  case c2 => intro i j; rfl
  case c3 => unfold maxLen; omega
  case c4 => omega
  intro v1 W1 hown1 hgrow1
  have b1 : Below w.heap.size w W1 := (gr_alloc (Below.refl w.heap.size w) _).grown hgrow1 (by simp) (by intro k hk; simp [Value.ownBlock] at hk; omega)
  obtain ⟨B1, d1, rfl, q1, ok1⟩ := row_cells (by decide) hown1
  have H1 := Lib.hid (And.intro b1 (And.intro q1 ok1))
  clear hown1 hgrow1 b1 q1 ok1
  go_wp2_with (at_builtin; refine append_any rfl _ _ 23 rfl W1.heap.size 35 i2 (.agg #[.int .u8 0, .int .u8 0]) 2 2 Tryd.underlying23 hi2 hz20 hz21 hz22 rfl (by decide) _ rfl (own_empty W1 W1.heap.size 35 2 (Nat.le_refl _)) A2 n2 c2 (rngAt L H) rfl HA.out.2.1 ?e1 ?e2 ?e3 ?e4 ?e5 ?_)
  case e1 => exact (HK.out.2.1.below H1.out.1).below ((Below.refl W1.heap.size W1).alloc (Nat.le_refl _) _)
  case e2 => intro i j; rfl
  case e3 => unfold maxLen; omega
  case e4 => omega
  case e5 => simp
  intro v2 W2 hown2 hgrow2
  have b2 : Below W1.heap.size W1 W2 := (gr_alloc (Below.refl W1.heap.size W1) _).grown hgrow2 (by simp) (by intro k hk; simp [Value.ownBlock] at hk; omega)
  obtain ⟨B2, d2, rfl, q2, ok2⟩ := row_cells (by decide) hown2
  have H2 := Lib.hid (And.intro (gr_call H1.out.1 b2) (And.intro (H1.out.2.1.below b2) q2))
  clear hown2 hgrow2 b2 q2 ok2
  go_wp2_with (at_builtin; refine append_any rfl _ _ 24 rfl W2.heap.size 28 i3 (.agg #[.int .u64 0, .int .u64 0, .int .u64 0, .int .u64 0]) 4 32 Tryd.underlying24 hi3 hz30 hz31 hz32 rfl (by decide) _ rfl (own_empty W2 W2.heap.size 28 4 (Nat.le_refl _)) A3 n3 c3 (setAt S) rfl HA.out.2.2 ?f1 ?f2 ?f3 ?f4 ?f5 ?_)
  case f1 => exact (HK.out.2.2.below H2.out.1).below ((Below.refl W2.heap.size W2).alloc (Nat.le_refl _) _)
  case f2 => intro i j; rfl
  case f3 => unfold maxLen; omega
  case f4 => omega
  case f5 => simp
  intro v3 W3 hown3 hgrow3
  have b3 : Below W2.heap.size W2 W3 := (gr_alloc (Below.refl W2.heap.size W2) _).grown hgrow3 (by simp) (by intro k hk; simp [Value.ownBlock] at hk; omega)
  obtain ⟨B3, d3, rfl, q3, ok3⟩ := row_cells (by decide) hown3
  have H3 := Lib.hid (And.intro (gr_call H2.out.1 b3) (And.intro (H2.out.2.1.below b3) (And.intro (H2.out.2.2.below b3) q3)))
  clear hown3 hgrow3 b3 q3 ok3 hi1 hi2 hi3 hz10 hz11 hz12 hz20 hz21 hz22 hz30 hz31 hz32
  go_wp2_with (fail)
  refine (branges B2 n2 d2 L H HZ.out.2.1 HZ.out.2.2 (by omega) _ H3.out.2.2.1).mono ?_
  rintro e W4 ⟨rfl, h4⟩
  obtain ⟨q, hq⟩ : ∃ q, q = rngV L H n2 := ⟨_, rfl⟩
  obtain ⟨er, her⟩ : ∃ er, er = rngE L H n2 := ⟨_, rfl⟩
  rw [← hq, ← her]
  have HQ := Lib.hid (And.intro hq her)
  have b4 := gr_alloc h4 (.cells #[Value.int .u64 (setW q 0 : Int), .int .u64 (setW q 1 : Int), .int .u64 (setW q 2 : Int), .int .u64 (setW q 3 : Int)] 28)
  have H4 := Lib.hid (And.intro (gr_call H3.out.1 b4) (And.intro (H3.out.2.1.below b4) (And.intro (H3.out.2.2.1.below b4) (And.intro (H3.out.2.2.2.below b4) (Blk.new W4 28 #[Value.int .u64 (setW q 0 : Int), .int .u64 (setW q 1 : Int), .int .u64 (setW q 2 : Int), .int .u64 (setW q 3 : Int)])))))
  clear b4 h4 hq her
  go_wp2_with (fail)
  refine (rranges A2 n2 c2 L H HZ.out.2.1 HZ.out.2.2 (by omega) _ (HK.out.2.1.below H4.out.1)).mono ?_
  rintro e W5 ⟨rfl, h5⟩
  rw [← HQ.out.1, ← HQ.out.2]
  obtain ⟨X, hX⟩ : ∃ X, X = W5.alloc (.cells #[Value.int .u64 (setW q 0 : Int), .int .u64 (setW q 1 : Int), .int .u64 (setW q 2 : Int), .int .u64 (setW q 3 : Int)] 28) := ⟨_, rfl⟩
  have b5 := gr_alloc h5 (.cells #[Value.int .u64 (setW q 0 : Int), .int .u64 (setW q 1 : Int), .int .u64 (setW q 2 : Int), .int .u64 (setW q 3 : Int)] 28)
  have k5 := Blk.new W5 28 #[Value.int .u64 (setW q 0 : Int), .int .u64 (setW q 1 : Int), .int .u64 (setW q 2 : Int), .int .u64 (setW q 3 : Int)]
  have f5 := (H4.out.2.2.2.2.call h5).alloc (.cells #[Value.int .u64 (setW q 0 : Int), .int .u64 (setW q 1 : Int), .int .u64 (setW q 2 : Int), .int .u64 (setW q 3 : Int)] 28)
  rw [← hX] at b5 k5 f5
  have H5 := Lib.hid (And.intro (gr_call H4.out.1 b5) (And.intro (H4.out.2.1.below b5) (And.intro (H4.out.2.2.1.below b5) (And.intro (H4.out.2.2.2.1.below b5) (And.intro f5 (And.intro k5 hX))))))
  clear b5 k5 f5 h5 hX
  have heq : ∀ (p : Nat → Bool) (W : World), (Op.equalIn 10000 28 (Value.agg #[.int .u64 (setW p 0 : Int), .int .u64 (setW p 1 : Int), .int .u64 (setW p 2 : Int), .int .u64 (setW p 3 : Int)]) (Value.agg #[.int .u64 (setW p 0 : Int), .int .u64 (setW p 1 : Int), .int .u64 (setW p 2 : Int), .int .u64 (setW p 3 : Int)])).run Tryd.prog W = .ok true W := fun p W => by rw [eqSet p p W, eqP_self]
  go_wp2_with (fail)
  rw [← H5.out.2.2.2.2.2.2]
  refine (bof B1 n1 d1 Z HZ.out.1 (by omega) _ H5.out.2.1).mono ?_
  rintro e W6 ⟨rfl, h6⟩
  obtain ⟨u, hu⟩ : ∃ u, u = ofP Z n1 := ⟨_, rfl⟩
  rw [← hu]
  have HU := Lib.hid hu
  have H6 := Lib.hid (And.intro (gr_call H5.out.1 h6) (And.intro (H5.out.2.1.below h6) (And.intro (H5.out.2.2.1.below h6) (And.intro (H5.out.2.2.2.1.below h6) (And.intro (H5.out.2.2.2.2.1.call h6) (H5.out.2.2.2.2.2.1.call h6))))))
  clear h6 hu
  go_wp2_with (fail)
  refine (rof A1 n1 c1 Z HZ.out.1 (by omega) _ (HK.out.1.below H6.out.1)).mono ?_
  rintro e W7 ⟨rfl, h7⟩
  rw [← HU.out]
  have f7 := H6.out.2.2.2.2.1.call h7
  have g7 := H6.out.2.2.2.2.2.call h7
  have a0 := f7.cell' (i := 0) rfl
  have a1 := f7.cell' (i := 1) rfl
  have a2 := f7.cell' (i := 2) rfl
  have a3 := f7.cell' (i := 3) rfl
  have b0 := g7.cell' (i := 0) rfl
  have b1 := g7.cell' (i := 1) rfl
  have b2 := g7.cell' (i := 2) rfl
  have b3 := g7.cell' (i := 3) rfl
  have H7 := Lib.hid (And.intro (gr_call H6.out.1 h7) (And.intro (H6.out.2.1.below h7) (And.intro (H6.out.2.2.1.below h7) (H6.out.2.2.2.1.below h7))))
  clear f7 g7 h7
  go_wp2_with (fail)
  refine (bunion B3 n3 d3 S (by omega) _ H7.out.2.2.2).mono ?_
  rintro e W8 ⟨rfl, h8⟩
  clear a0 a1 a2 a3 b0 b1 b2 b3
  obtain ⟨u8, hu8⟩ : ∃ u, u = orL S n3 := ⟨_, rfl⟩
  rw [← hu8]
  have HU8 := Lib.hid hu8
  have H8 := Lib.hid (And.intro (gr_call H7.out.1 h8) (And.intro (H7.out.2.1.below h8) (And.intro (H7.out.2.2.1.below h8) (H7.out.2.2.2.below h8))))
  clear h8 hu8
  go_wp2_with (fail)
  refine (runion A3 n3 c3 S (by omega) _ (HK.out.2.2.below H8.out.1)).mono ?_
  rintro e W9 ⟨rfl, h9⟩
  rw [← HU8.out]
  have H9 := Lib.hid (And.intro (gr_call H8.out.1 h9) (And.intro (H8.out.2.1.below h9) (And.intro (H8.out.2.2.1.below h9) (H8.out.2.2.2.below h9))))
  clear h9
  go_wp2_with (fail)
  refine (bcommon B3 n3 d3 S (by omega) _ H9.out.2.2.2).mono ?_
  rintro e W10 ⟨rfl, h10⟩
  obtain ⟨u10, hu10⟩ : ∃ u, u = andL S n3 := ⟨_, rfl⟩
  rw [← hu10]
  have HU10 := Lib.hid hu10
  have H10 := Lib.hid (And.intro (gr_call H9.out.1 h10) (And.intro (H9.out.2.1.below h10) (And.intro (H9.out.2.2.1.below h10) (H9.out.2.2.2.below h10))))
  clear h10 hu10
  go_wp2_with (fail)
  refine (rcommon A3 n3 c3 S (by omega) _ (HK.out.2.2.below H10.out.1)).mono ?_
  rintro e W11 ⟨rfl, h11⟩
  rw [← HU10.out]
  have H11 := Lib.hid (And.intro (gr_call H10.out.1 h11) (And.intro (H10.out.2.1.below h11) (And.intro (H10.out.2.2.1.below h11) (H10.out.2.2.2.below h11))))
  clear h11
  have heqr : ∀ (x y : Int) (W : World), (Op.equalIn 10000 35 (.agg #[.int .u8 x, .int .u8 y]) (.agg #[.int .u8 x, .int .u8 y])).run Tryd.prog W = .ok true W := fun x y W => by rw [eqRng]; simp
  go_wp2_with (fail)
  go_loopw [14] (fun i wr => ∃ k : Nat, k ≤ n2 ∧ i = .int .i64 (k : Int) ∧ Below W11.heap.size W11 wr) (fun i _ => n2 - (intOf i).toNat)
  case atStart => exact ⟨0, Nat.zero_le _, rfl, Below.refl _ _⟩
  case round =>
    obtain ⟨k, hk, rfl, hB⟩ := hrel
    by_cases hlt : k < n2
    · obtain ⟨ab, ao, rfl, had, hcl⟩ := (H11.out.2.2.1.below hB) (by omega)
      have p0 : wr.cell? ⟨ab, ao + k * 2, none⟩ = some (.int .u8 (L k : Int)) := hcl k 0 hlt (by decide)
      have p1 : wr.cell? ⟨ab, ao + k * 2 + 1, none⟩ = some (.int .u8 (H k : Int)) := hcl k 1 hlt (by decide)
      obtain ⟨bb, bo, rfl, hbd, hcm⟩ := ((HK.out.2.1.below H11.out.1).below hB) (by omega)
      have r0 : wr.cell? ⟨bb, bo + k * 2, none⟩ = some (.int .u8 (L k : Int)) := hcm k 0 hlt (by decide)
      have r1 : wr.cell? ⟨bb, bo + k * 2 + 1, none⟩ = some (.int .u8 (H k : Int)) := hcm k 1 hlt (by decide)
      have HB := Lib.hid hB
      clear hcl hcm hB
      go_wp2_with (fail)
      go_quiet (fail)
      go_wp2_with (fail)
      exact ⟨⟨k + 1, by omega, by go_num, below_drewN HB.out _⟩, by simp [intOf]; omega⟩
    · obtain rfl : k = n2 := by omega
      have H12 := Lib.hid (And.intro (gr_call H11.out.1 hB) (And.intro (H11.out.2.1.below hB) (H11.out.2.2.2.below hB)))
      clear hB
      go_wp2_with (fail)
      go_loopw [15] (fun i wx => ∃ k : Nat, k ≤ n3 ∧ i = .int .i64 (k : Int) ∧ Below wr.heap.size wr wx) (fun i _ => n3 - (intOf i).toNat)
      case atStart => exact ⟨0, Nat.zero_le _, rfl, Below.refl _ _⟩
      case round =>
        obtain ⟨j, hj, rfl, hB⟩ := hrel
        by_cases hlt : j < n3
        · obtain ⟨ab, ao, rfl, had, hcl⟩ := (H12.out.2.2.below hB) (by omega)
          have p0 : wr.cell? ⟨ab, ao + j * 4, none⟩ = some (.int .u64 (setW (S j) 0 : Int)) := hcl j 0 hlt (by decide)
          have p1 : wr.cell? ⟨ab, ao + j * 4 + 1, none⟩ = some (.int .u64 (setW (S j) 1 : Int)) := hcl j 1 hlt (by decide)
          have p2 : wr.cell? ⟨ab, ao + j * 4 + 2, none⟩ = some (.int .u64 (setW (S j) 2 : Int)) := hcl j 2 hlt (by decide)
          have p3 : wr.cell? ⟨ab, ao + j * 4 + 3, none⟩ = some (.int .u64 (setW (S j) 3 : Int)) := hcl j 3 hlt (by decide)
          obtain ⟨bb, bo, rfl, hbd, hcm⟩ := ((HK.out.2.2.below H12.out.1).below hB) (by omega)
          have r0 : wr.cell? ⟨bb, bo + j * 4, none⟩ = some (.int .u64 (setW (S j) 0 : Int)) := hcm j 0 hlt (by decide)
          have r1 : wr.cell? ⟨bb, bo + j * 4 + 1, none⟩ = some (.int .u64 (setW (S j) 1 : Int)) := hcm j 1 hlt (by decide)
          have r2 : wr.cell? ⟨bb, bo + j * 4 + 2, none⟩ = some (.int .u64 (setW (S j) 2 : Int)) := hcm j 2 hlt (by decide)
          have r3 : wr.cell? ⟨bb, bo + j * 4 + 3, none⟩ = some (.int .u64 (setW (S j) 3 : Int)) := hcm j 3 hlt (by decide)
          have HB := Lib.hid hB
          clear hcl hcm hB
          go_wp2_with (fail)
          go_quiet (fail)
          go_wp2_with (fail)
          exact ⟨⟨j + 1, by omega, by go_num, below_drewN HB.out _⟩, by simp [intOf]; omega⟩
        · obtain rfl : j = n3 := by omega
          have H13 := Lib.hid (And.intro (gr_call H12.out.1 hB) (H12.out.2.1.below hB))
          have e1 := conv_cells HZ.out.1 H1.out.2.2 H13.out.2
          have e2 := conv_cells HZ.out.1 HA.out.1 (HK.out.1.below H13.out.1)
          clear hB
          go_wp2_with (fail)
          refine (awake _ (TB.out _ H13.out.1).1 (TB.out _ H13.out.1).2).mono ?_
          rintro e W14 ⟨rfl, h14⟩
          have H14 := Lib.hid (gr_call H13.out.1 h14)
          clear h14
          go_wp2_with (fail)
          go_ret
          exact ⟨rfl, H14.out⟩

theorem law_makes (A1 A2 A3 : Option Addr) (n1 n2 n3 c1 c2 c3 : Nat) (Z L H : Nat → Nat) (S : Nat → Nat → Bool) (hZ : ∀ i, Z i < 256) (hL : ∀ i, L i < 256) (hH : ∀ i, H i < 256)
    (w : World) (hA1 : ArgOk A1 n1 c1) (hA2 : ArgOk A2 n2 c2) (hA3 : ArgOk A3 n3 c3)
    (k1 : Cells w A1 1 n1 (byteAt Z)) (k2 : Cells w A2 2 n2 (rngAt L H)) (k3 : Cells w A3 4 n3 (setAt S)) (hT : TabOk w) (hw : 0 < w.heap.size) :
    Calls Tryd.prog 3 #[.slice A1 n1 c1, .slice A2 n2 c2, .slice A3 n3 c3] w fun e w' => e = .returned (.bool true) ∧ Below w.heap.size w w' := by
  by_cases h1 : (40 : Int) < n1
  · exact makes_long A1 A2 A3 n1 n2 n3 c1 c2 c3 (.inl h1) w hT hw
  · by_cases h2 : (40 : Int) < n2
    · exact makes_long A1 A2 A3 n1 n2 n3 c1 c2 c3 (.inr (.inl h2)) w hT hw
    · by_cases h3 : (40 : Int) < n3
      · exact makes_long A1 A2 A3 n1 n2 n3 c1 c2 c3 (.inr (.inr h3)) w hT hw
      · exact makes_short A1 A2 A3 n1 n2 n3 c1 c2 c3 Z L H S hZ hL hH h1 h2 h3 w hA1 hA2 hA3 k1 k2 k3 hT hw
end Go.Proofs.YtcfdadgijnmemaaDoor
