/-
  The reference's Fold, List, Count, Next: as the plain functions say; no condition.
-/
import Derived.Test.YtcfdadgijnmemaaDoorSetM
namespace Go.Proofs.YtcfdadgijnmemaaDoor
open Go.RowKit
set_option linter.unusedVariables false
set_option linter.unusedSimpArgs false

def rfoldQ (p : Nat → Bool) : Nat → Nat → Bool
  | 0 => p
  | m + 1 => if p (97 + m) || p (65 + m) then insP (insP (rfoldQ p m) (97 + m)) (65 + m) else rfoldQ p m
theorem rfoldQ_at (p : Nat → Bool) (m : Nat) (hm : m ≤ 26) (c : Nat) : rfoldQ p m c = (p c || (decide (97 ≤ c) && decide (c < 97 + m) && p (c - 32)) || (decide (65 ≤ c) && decide (c < 65 + m) && p (c + 32))) := by
  induction m with
  | zero =>
    have h1 : (decide (97 ≤ c) && decide (c < 97 + 0)) = false := by simp
    have h2 : (decide (65 ≤ c) && decide (c < 65 + 0)) = false := by simp
    rw [h1, h2]; simp [rfoldQ]
  | succ m ih =>
    have ih := ih (by omega)
    unfold rfoldQ
    by_cases e1 : c = 97 + m
    · subst e1
      rw [show 97 + m - 32 = 65 + m by omega, decide_eq_true (by omega : 97 ≤ 97 + m), decide_eq_true (by omega : 97 + m < 97 + (m + 1)), decide_eq_false (by omega : ¬ 97 + m < 65 + (m + 1))]
      rw [decide_eq_false (by omega : ¬ 97 + m < 97 + m), decide_eq_false (by omega : ¬ 97 + m < 65 + m)] at ih
      cases h1 : p (97 + m) <;> cases h2 : p (65 + m) <;> simp [insP, h1, h2] at ih ⊢ <;> simp [ih]
    · by_cases e2 : c = 65 + m
      · subst e2
        rw [show 65 + m + 32 = 97 + m by omega, decide_eq_true (by omega : 65 ≤ 65 + m), decide_eq_true (by omega : 65 + m < 65 + (m + 1)), decide_eq_false (by omega : ¬ 97 ≤ 65 + m)]
        rw [decide_eq_false (by omega : ¬ 97 ≤ 65 + m), decide_eq_false (by omega : ¬ 65 + m < 65 + m)] at ih
        cases h1 : p (97 + m) <;> cases h2 : p (65 + m) <;> simp [insP, h1, h2] at ih ⊢ <;> simp [ih]
      · have d1 : decide (c < 97 + (m + 1)) = decide (c < 97 + m) := by rw [decide_eq_decide]; omega
        have d2 : decide (c < 65 + (m + 1)) = decide (c < 65 + m) := by rw [decide_eq_decide]; omega
        rw [d1, d2, ← ih]
        split
        · simp [insP, e1, e2]
        · rfl
theorem xorLU : ∀ c : Nat, c < 256 → (97 ≤ c ∧ c ≤ 122 → c ^^^ 32 = c - 32) ∧ (65 ≤ c ∧ c ≤ 90 → c ^^^ 32 = c + 32) := by decide +kernel
theorem rfoldQ_all (p : Nat → Bool) : setC (rfoldQ p 26) = setC (foldP p) := by
  refine setC_ext (fun c hc => ?_)
  rw [rfoldQ_at p 26 (Nat.le_refl _)]
  obtain ⟨h1, h2⟩ := xorLU c hc
  unfold foldP letP
  by_cases a1 : 97 ≤ c ∧ c ≤ 122
  · rw [h1 a1, decide_eq_true a1.1, decide_eq_true a1.2, decide_eq_true (by omega : c < 97 + 26), decide_eq_false (by omega : ¬ c < 65 + 26)]
    simp
  · by_cases a2 : 65 ≤ c ∧ c ≤ 90
    · rw [h2 a2, decide_eq_true a2.1, decide_eq_true a2.2, decide_eq_false (by omega : ¬ 97 ≤ c), decide_eq_true (by omega : c < 65 + 26)]
      simp
    · have b1 : (decide (97 ≤ c) && decide (c < 97 + 26)) = false := by rw [Bool.and_eq_false_iff, decide_eq_false_iff_not, decide_eq_false_iff_not]; omega
      have b2 : (decide (65 ≤ c) && decide (c < 65 + 26)) = false := by rw [Bool.and_eq_false_iff, decide_eq_false_iff_not, decide_eq_false_iff_not]; omega
      have b3 : (decide (97 ≤ c) && decide (c ≤ 122)) = false := by rw [Bool.and_eq_false_iff, decide_eq_false_iff_not, decide_eq_false_iff_not]; omega
      have b4 : (decide (65 ≤ c) && decide (c ≤ 90)) = false := by rw [Bool.and_eq_false_iff, decide_eq_false_iff_not, decide_eq_false_iff_not]; omega
      rw [b1, b2, b3, b4]
      simp

/-- The call's three blocks: its argument, the result, the set that is made. -/
def RFold (w : World) (p q : Nat → Bool) (W : World) : Prop :=
  Blk W w.heap.size 28 #[Value.int .u64 (setW p 0 : Int), .int .u64 (setW p 1 : Int), .int .u64 (setW p 2 : Int), .int .u64 (setW p 3 : Int)] ∧ Blk W (w.heap.size + 1) 28 #[.int .u64 0, .int .u64 0, .int .u64 0, .int .u64 0] ∧ Blk W (w.heap.size + 1 + 1) 28 #[Value.int .u64 (setW q 0 : Int), .int .u64 (setW q 1 : Int), .int .u64 (setW q 2 : Int), .int .u64 (setW q 3 : Int)] ∧ Below w.heap.size w W

set_option maxRecDepth 100000 in
set_option maxHeartbeats 2000000 in
theorem rfold (p : Nat → Bool) (w : World) :
    Calls Tryd.prog 30 #[Value.agg #[.int .u64 (setW p 0 : Int), .int .u64 (setW p 1 : Int), .int .u64 (setW p 2 : Int), .int .u64 (setW p 3 : Int)]] w fun e W' => e = .returned (Value.agg #[.int .u64 (setW (foldP p) 0 : Int), .int .u64 (setW (foldP p) 1 : Int), .int .u64 (setW (foldP p) 2 : Int), .int .u64 (setW (foldP p) 3 : Int)]) ∧ Below w.heap.size w W' := by
  go_enter Tryd.func30, Tryd.ntmps30
  go_wp2_with (fail)
  go_loopw [4] (fun i wr => ∃ m : Nat, m ≤ 26 ∧ i = .int .u8 ((97 + m : Nat) : Int) ∧ RFold w p (rfoldQ p m) wr) (fun i _ => 123 - (intOf i).toNat)
  case atStart =>
    refine ⟨0, by omega, rfl, ((Blk.new _ _ _).alloc _).alloc _, ?_, ?_, gr_alloc (gr_alloc (gr_alloc (Below.refl _ _) _) _) _⟩
    · simpa using (Blk.new (w.alloc (.cells #[Value.int .u64 (setW p 0 : Int), .int .u64 (setW p 1 : Int), .int .u64 (setW p 2 : Int), .int .u64 (setW p 3 : Int)] 28)) 28 #[.int .u64 0, .int .u64 0, .int .u64 0, .int .u64 0]).alloc (.cells #[Value.int .u64 (setW p 0 : Int), .int .u64 (setW p 1 : Int), .int .u64 (setW p 2 : Int), .int .u64 (setW p 3 : Int)] 28)
    · simpa [rfoldQ] using Blk.new ((w.alloc (.cells #[Value.int .u64 (setW p 0 : Int), .int .u64 (setW p 1 : Int), .int .u64 (setW p 2 : Int), .int .u64 (setW p 3 : Int)] 28)).alloc (.cells #[.int .u64 0, .int .u64 0, .int .u64 0, .int .u64 0] 28)) 28 #[Value.int .u64 (setW p 0 : Int), .int .u64 (setW p 1 : Int), .int .u64 (setW p 2 : Int), .int .u64 (setW p 3 : Int)]
  case round =>
    obtain ⟨m, hm, rfl, d0, d1, d2, hB⟩ := hrel
    obtain ⟨v, hv⟩ : ∃ v, v = 97 + m := ⟨_, rfl⟩
    rw [← hv]
    by_cases hlt : m < 26
    · have hv1 : v ≤ 122 := by omega
      have hv2 : 97 ≤ v := by omega
      have hsub : IntKind.u8.wrap ((v : Int) - 32) = ((v - 32 : Nat) : Int) := by rw [IntKind.wrap_u8]; omega
      have a0 := d0.cell' (i := 0) rfl
      have a1 := d0.cell' (i := 1) rfl
      have a2 := d0.cell' (i := 2) rfl
      have a3 := d0.cell' (i := 3) rfl
      have HV := Lib.hid (And.intro hv hm)
      have hsz := d2.lt
      have HD := Lib.hid (And.intro d0 (And.intro d1 (And.intro d2 hB)))
      clear hv hm hlt d0 d1 d2 hB
      have e65 : Hid (v - 32 = 65 + m) := Lib.hid (by have := HV.out.1; omega)
      have fin : ∀ (W1 : World) (q : Nat → Bool), RFold w p q W1 → setC q = setC (rfoldQ p (m + 1)) → RFold w p (rfoldQ p (m + 1)) W1 := fun W1 q h hs => ⟨h.1, h.2.1, blk_same h.2.2.1 hs, h.2.2.2⟩
      have FIN := Lib.hid fin
      clear fin
      cases h1 : p v
      · cases h2 : p (v - 32)
        · have HP := Lib.hid (And.intro h1 h2)
          clear h1 h2
          go_wp2_with (fail)
          refine (rhasp p v (by omega) _).mono ?_
          rintro e W1 ⟨rfl, hb1⟩
          rw [HP.out.1]
          have e0 := HD.out.1.call hb1
          have b0 := e0.cell' (i := 0) rfl
          have b1 := e0.cell' (i := 1) rfl
          have b2 := e0.cell' (i := 2) rfl
          have b3 := e0.cell' (i := 3) rfl
          have HE := Lib.hid hb1
          clear hb1 e0
          go_wp2_with (fail)
          refine (rhasp p (v - 32) (by omega) _).mono ?_
          rintro e W2 ⟨rfl, hb2⟩
          rw [HP.out.2]
          have HE2 := Lib.hid (gr_call HE.out hb2)
          clear hb2
          go_wp2_with (fail)
          obtain ⟨d0, d1, d2, hB⟩ := HD.out
          obtain ⟨hv, hm⟩ := HV.out
          refine ⟨⟨m + 1, by omega, by rw [hv]; go_num, FIN.out _ (rfoldQ p m) ⟨d0.call HE2.out, d1.call HE2.out, d2.call HE2.out, gr_call hB HE2.out⟩ ?_⟩, by simp [intOf]; omega⟩
          show _ = setC (if p (97 + m) || p (65 + m) then _ else _)
          rw [← hv, ← e65.out, HP.out.1, HP.out.2]; rfl
        · have HP := Lib.hid (And.intro h1 h2)
          clear h1 h2
          go_wp2_with (fail)
          refine (rhasp p v (by omega) _).mono ?_
          rintro e W1 ⟨rfl, hb1⟩
          rw [HP.out.1]
          have e0 := HD.out.1.call hb1
          have b0 := e0.cell' (i := 0) rfl
          have b1 := e0.cell' (i := 1) rfl
          have b2 := e0.cell' (i := 2) rfl
          have b3 := e0.cell' (i := 3) rfl
          have HE := Lib.hid hb1
          clear hb1 e0
          go_wp2_with (fail)
          refine (rhasp p (v - 32) (by omega) _).mono ?_
          rintro e W2 ⟨rfl, hb2⟩
          rw [HP.out.2]
          have HE2 := Lib.hid (gr_call HE.out hb2)
          clear hb2
          have hd2 := HD.out.2.2.1.call HE2.out
          have c0 := hd2.cell' (i := 0) rfl
          have c1 := hd2.cell' (i := 1) rfl
          have c2 := hd2.cell' (i := 2) rfl
          have c3 := hd2.cell' (i := 3) rfl
          clear hd2
          go_wp2_with (fail)
          refine (rwith (rfoldQ p m) v (by omega) _).mono ?_
          rintro e W3 ⟨rfl, hb3⟩
          have HE3 := Lib.hid (gr_call HE2.out hb3)
          clear hb3
          go_wp2_with (fail)
          refine (rwith (insP (rfoldQ p m) v) (v - 32) (by omega) _).mono ?_
          rintro e W4 ⟨rfl, hb4⟩
          have HE4 := Lib.hid (gr_call HE3.out hb4)
          clear hb4
          have hd4 := HD.out.2.2.1.call HE4.out
          have g0 := hd4.cell' (i := 0) rfl
          have g1 := hd4.cell' (i := 1) rfl
          have g2 := hd4.cell' (i := 2) rfl
          have g3 := hd4.cell' (i := 3) rfl
          have f0 := hd4.frozen 0
          have f1 := hd4.frozen 1
          have f2 := hd4.frozen 2
          have f3 := hd4.frozen 3
          clear hd4
          go_wp2_with (fail)
          obtain ⟨d0, d1, d2, hB⟩ := HD.out
          obtain ⟨hv, hm⟩ := HV.out
          have hB4 := gr_call hB HE4.out
          refine ⟨⟨m + 1, by omega, by rw [hv]; go_num, FIN.out _ (insP (insP (rfoldQ p m) v) (v - 32)) ⟨(((((d0.call HE4.out).far (by simp; omega) _).far (by simp; omega) _).far (by simp; omega) _).far (by simp; omega) _), (((((d1.call HE4.out).far (by simp) _).far (by simp) _).far (by simp) _).far (by simp) _), blk_store (d2.call HE4.out), gr_set (gr_set (gr_set (gr_set hB4 (by simp; omega) _) (by simp; omega) _) (by simp; omega) _) (by simp; omega) _⟩ ?_⟩, by simp [intOf]; omega⟩
          show _ = setC (if p (97 + m) || p (65 + m) then _ else _)
          rw [← hv, ← e65.out, HP.out.1, HP.out.2]; rfl
      · have HP := Lib.hid h1
        clear h1
        go_wp2_with (fail)
        refine (rhasp p v (by omega) _).mono ?_
        rintro e W1 ⟨rfl, hb1⟩
        rw [HP.out]
        have e0 := HD.out.2.2.1.call hb1
        have c0 := e0.cell' (i := 0) rfl
        have c1 := e0.cell' (i := 1) rfl
        have c2 := e0.cell' (i := 2) rfl
        have c3 := e0.cell' (i := 3) rfl
        have HE := Lib.hid hb1
        clear hb1 e0
        go_wp2_with (fail)
        refine (rwith (rfoldQ p m) v (by omega) _).mono ?_
        rintro e W3 ⟨rfl, hb3⟩
        have HE3 := Lib.hid (gr_call HE.out hb3)
        clear hb3
        go_wp2_with (fail)
        refine (rwith (insP (rfoldQ p m) v) (v - 32) (by omega) _).mono ?_
        rintro e W4 ⟨rfl, hb4⟩
        have HE4 := Lib.hid (gr_call HE3.out hb4)
        clear hb4
        have hd4 := HD.out.2.2.1.call HE4.out
        have g0 := hd4.cell' (i := 0) rfl
        have g1 := hd4.cell' (i := 1) rfl
        have g2 := hd4.cell' (i := 2) rfl
        have g3 := hd4.cell' (i := 3) rfl
        have f0 := hd4.frozen 0
        have f1 := hd4.frozen 1
        have f2 := hd4.frozen 2
        have f3 := hd4.frozen 3
        clear hd4
        go_wp2_with (fail)
        obtain ⟨d0, d1, d2, hB⟩ := HD.out
        obtain ⟨hv, hm⟩ := HV.out
        have hB4 := gr_call hB HE4.out
        refine ⟨⟨m + 1, by omega, by rw [hv]; go_num, FIN.out _ (insP (insP (rfoldQ p m) v) (v - 32)) ⟨(((((d0.call HE4.out).far (by simp; omega) _).far (by simp; omega) _).far (by simp; omega) _).far (by simp; omega) _), (((((d1.call HE4.out).far (by simp) _).far (by simp) _).far (by simp) _).far (by simp) _), blk_store (d2.call HE4.out), gr_set (gr_set (gr_set (gr_set hB4 (by simp; omega) _) (by simp; omega) _) (by simp; omega) _) (by simp; omega) _⟩ ?_⟩, by simp [intOf]; omega⟩
        show _ = setC (if p (97 + m) || p (65 + m) then _ else _)
        rw [← hv, ← e65.out, HP.out]; rfl
    · obtain rfl : m = 26 := by omega
      subst hv
      have d2 := blk_same d2 (rfoldQ_all p)
      have a0 := d2.cell' (i := 0) rfl
      have a1 := d2.cell' (i := 1) rfl
      have a2 := d2.cell' (i := 2) rfl
      have a3 := d2.cell' (i := 3) rfl
      have b0 := d1.cell' (i := 0) rfl
      have b1 := d1.cell' (i := 1) rfl
      have b2 := d1.cell' (i := 2) rfl
      have b3 := d1.cell' (i := 3) rfl
      have f0 := d1.frozen 0
      have f1 := d1.frozen 1
      have f2 := d1.frozen 2
      have f3 := d1.frozen 3
      have hsz := d2.lt
      have HB := Lib.hid hB
      clear d0 d1 d2 hB
      go_wp2_with (fail)
      refine bodyPost_ret (v := Value.agg #[.int .u64 (setW (foldP p) 0 : Int), .int .u64 (setW (foldP p) 1 : Int), .int .u64 (setW (foldP p) 2 : Int), .int .u64 (setW (foldP p) 3 : Int)]) (by simp [results, Tryd.results30, go_sem, b0, b1, b2, b3]) rfl ⟨rfl, ?_⟩
      exact gr_set (gr_set (gr_set (gr_set HB.out (by simp) _) (by simp) _) (by simp) _) (by simp) _

set_option maxRecDepth 100000 in
set_option maxHeartbeats 2000000 in
theorem rlist (p : Nat → Bool) (w : World) :
    Calls Tryd.prog 36 #[Value.agg #[.int .u64 (setW p 0 : Int), .int .u64 (setW p 1 : Int), .int .u64 (setW p 2 : Int), .int .u64 (setW p 3 : Int)]] w fun e W' => ∃ v, e = .returned v ∧ W'.ownsRow w.heap.size 5 1 v (lstP p 256).length (cellsF (lstP p 256)) ∧ Below w.heap.size w W' := by
  obtain ⟨i0, hi, hz0, hz1, hz2⟩ := info_parts infoByte
  go_enter Tryd.func36, Tryd.ntmps36
  go_wp2_with (fail)
  go_loopw [3, 4] (fun v i wr => ∃ k : Nat, k ≤ 256 ∧ i = .int .i64 (k : Int) ∧ wr.ownsRow w.heap.size 5 1 v (lstP p k).length (cellsF (lstP p k)) ∧ Blk wr w.heap.size 28 #[Value.int .u64 (setW p 0 : Int), .int .u64 (setW p 1 : Int), .int .u64 (setW p 2 : Int), .int .u64 (setW p 3 : Int)] ∧ Below w.heap.size w wr) (fun _ i _ => 256 - (intOf i).toNat)
  case atStart => exact ⟨0, by omega, rfl, World.ownsRow_nil _ _ _ _, Blk.new _ _ _, gr_alloc (Below.refl _ _) _⟩
  case round =>
    obtain ⟨k, hk, rfl, hown, hblk, hB⟩ := hrel
    obtain ⟨va, vc, rfl⟩ := own_slice hown
    by_cases hlt : k < 256
    · have hw1 : IntKind.u8.wrap (k : Int) = (k : Int) := by rw [IntKind.wrap_u8]; omega
      have a0 := hblk.cell' (i := 0) rfl
      have a1 := hblk.cell' (i := 1) rfl
      have a2 := hblk.cell' (i := 2) rfl
      have a3 := hblk.cell' (i := 3) rfl
      have hll := lstP_len p k
      have HD := Lib.hid (And.intro hown (And.intro hblk hB))
      clear hown hblk hB
      cases h1 : p k
      · have HP := Lib.hid h1
        clear h1
        go_wp2_with (fail)
        refine (rhasp p k (by omega) _).mono ?_
        rintro e W1 ⟨rfl, hb1⟩
        rw [HP.out]
        have HE := Lib.hid hb1
        clear hb1
        go_wp2_with (fail)
        obtain ⟨hown, hblk, hB⟩ := HD.out
        refine ⟨⟨k + 1, by omega, by go_num, ?_, hblk.call HE.out, gr_call hB HE.out⟩, by simp [intOf]; omega⟩
        rw [lstP_no p k HP.out]
        exact own_below hown HE.out (Nat.le_refl _)
      · have HP := Lib.hid h1
        clear h1
        go_wp2_with (fail)
        refine (rhasp p k (by omega) _).mono ?_
        rintro e W1 ⟨rfl, hb1⟩
        rw [HP.out]
        have hown1 := own_below HD.out.1 hb1 (Nat.le_refl _)
        have hBW := gr_call HD.out.2.2 hb1
        have hsW := hBW.size
        have HE := Lib.hid hb1
        have HBW := Lib.hid hBW
        clear hb1 hBW
        go_wp2_with (at_builtin; refine wpList_append_own _ rfl _ _ 22 rfl w.heap.size 5 i0 (.int .u8 0) 1 1 Tryd.underlying22 hi hz0 hz1 hz2 rfl (by decide) _ _ _ rfl (hown1.alloc _) ⟨W1.heap.size, 0, none⟩ 1 1 [.int .u8 (k : Int)] rfl rfl ?c1 ?c2 ?c3 ?c4 ?c5 ?_)
        case c1 => exact one_new rfl _ _
        case c2 => exact one_int _ _
        case c3 => unfold maxLen; omega
        case c4 => omega
        case c5 => simp; omega
        intro v' w2 hown' hgrow _
        have hblk2 := ((HD.out.2.1.call HE.out).alloc (.cells #[.int .u8 (k : Int)] 5)).grown hgrow (own_blk_ne (hown1.alloc _) ((HD.out.2.1.call HE.out).alloc (.cells #[.int .u8 (k : Int)] 5)) (by decide))
        have hB2 := (gr_alloc HBW.out (.cells #[.int .u8 (k : Int)] 5)).grown hgrow (by simp; omega) (fun j hj => (hown1.lt j hj).1)
        have HF := Lib.hid (And.intro hown' (And.intro hblk2 hB2))
        clear hown' hblk2 hB2 hgrow hown1
        go_wp2
        obtain ⟨g1, g2, g3⟩ := HF.out
        refine ⟨⟨k + 1, by omega, by go_num, ?_, g2, g3⟩, by simp [intOf]; omega⟩
        rw [lstP_yes p k hlt HP.out]
        simpa [cellsF] using g1
    · obtain rfl : k = 256 := by omega
      have HD := Lib.hid (And.intro hown hB)
      clear hown hblk hB
      go_wp2
      go_ret
      exact ⟨_, rfl, HD.out.1, HD.out.2⟩

theorem lstP_cnt (p : Nat → Bool) (n : Nat) (hn : n ≤ 256) : (lstP p n).length = cntP p n := by
  induction n with
  | zero => rfl
  | succ n ih =>
    have ih := ih (by omega)
    show _ = cntP p n + (p n).toNat
    cases hp : p n
    · rw [lstP_no p n hp, ih]; rfl
    · rw [lstP_yes p n (by omega) hp, List.length_append, ih]; rfl

set_option maxRecDepth 100000 in
set_option maxHeartbeats 1000000 in
theorem rcount (p : Nat → Bool) (w : World) :
    Calls Tryd.prog 32 #[Value.agg #[.int .u64 (setW p 0 : Int), .int .u64 (setW p 1 : Int), .int .u64 (setW p 2 : Int), .int .u64 (setW p 3 : Int)]] w fun e w' => e = .returned (.int .i64 (cntP p 256 : Int)) ∧ Below w.heap.size w w' := by
  go_enter Tryd.func32, Tryd.ntmps32
  go_wp2_with (fail)
  refine (rlist p _).mono ?_
  rintro e W1 ⟨v, rfl, hown, hb⟩
  obtain ⟨va, vc, rfl⟩ := own_slice hown
  have hl := Lib.hid (lstP_cnt p 256 (Nat.le_refl _))
  have hll := lstP_len p 256
  have HB := Lib.hid (gr_call (gr_alloc (Below.refl w.heap.size w) _) hb)
  clear hown hb
  go_wp2_with (fail)
  go_ret
  exact ⟨ret_int (by rw [hl.out]), HB.out⟩

theorem nxtN_past (p : Nat → Bool) (a : Int) (h : 256 ≤ a) : nxtP p a = none := nxtN_none p a 256 (Nat.le_refl _) (fun c _ hc _ => by omega)

set_option maxRecDepth 100000 in
set_option maxHeartbeats 2000000 in
theorem rnext (p : Nat → Bool) (a : Int) (ha : -9223372036854775808 ≤ a ∧ a ≤ 9223372036854775807) (w : World) :
    Calls Tryd.prog 34 #[Value.agg #[.int .u64 (setW p 0 : Int), .int .u64 (setW p 1 : Int), .int .u64 (setW p 2 : Int), .int .u64 (setW p 3 : Int)], .int .i64 a] w fun e W' => e = .returned (.tuple #[.int .i64 (nxtV (nxtP p a)), .int .i64 (nxtE (nxtP p a))]) ∧ Below w.heap.size w W' := by
  obtain ⟨ha1, ha2⟩ := ha
  go_enter Tryd.func34, Tryd.ntmps34
  go_wp2_with (fail)
  all_goals
    go_loopw [6] (fun i wr => ∃ k : Nat, a ≤ k ∧ k ≤ 9223372036854775807 ∧ i = .int .i64 (k : Int) ∧ (∀ c, c < k → c < 256 → p c = true → (c : Int) < a) ∧ Blk wr w.heap.size 28 #[Value.int .u64 (setW p 0 : Int), .int .u64 (setW p 1 : Int), .int .u64 (setW p 2 : Int), .int .u64 (setW p 3 : Int)] ∧ Below w.heap.size w wr) (fun i _ => 256 - (intOf i).toNat)
    case atStart =>
      first
        | exact ⟨0, by omega, by omega, rfl, fun c hc => absurd hc (by omega), Blk.new _ _ _, gr_alloc (Below.refl _ _) _⟩
        | exact ⟨a.toNat, by omega, by omega, by rw [Int.toNat_of_nonneg (by omega)], fun c hc _ _ => by omega, Blk.new _ _ _, gr_alloc (Below.refl _ _) _⟩
    case round =>
      obtain ⟨k, hak, hkm, rfl, hlow, hblk, hB⟩ := hrel
      by_cases hlt : k < 256
      · have hw1 : IntKind.u8.wrap (k : Int) = (k : Int) := by rw [IntKind.wrap_u8]; omega
        have a0 := hblk.cell' (i := 0) rfl
        have a1 := hblk.cell' (i := 1) rfl
        have a2 := hblk.cell' (i := 2) rfl
        have a3 := hblk.cell' (i := 3) rfl
        have HD := Lib.hid (And.intro hlow (And.intro hblk hB))
        clear hlow hblk hB
        cases h1 : p k
        · have HP := Lib.hid h1
          clear h1
          go_wp2_with (fail)
          refine (rhasp p k (by omega) _).mono ?_
          rintro e W1 ⟨rfl, hb1⟩
          rw [HP.out]
          have HE := Lib.hid hb1
          clear hb1
          go_wp2_with (fail)
          obtain ⟨hlow, hblk, hB⟩ := HD.out
          refine ⟨⟨k + 1, by omega, by omega, by go_num, ?_, hblk.call HE.out, gr_call hB HE.out⟩, by simp [intOf]; omega⟩
          intro c hc h256 hpc
          by_cases e : c = k
          · subst e; rw [HP.out] at hpc; cases hpc
          · exact hlow c (by omega) h256 hpc
        · have HP := Lib.hid h1
          clear h1
          go_wp2_with (fail)
          refine (rhasp p k (by omega) _).mono ?_
          rintro e W1 ⟨rfl, hb1⟩
          rw [HP.out]
          have HE := Lib.hid hb1
          clear hb1
          go_wp2_with (fail)
          obtain ⟨hlow, hblk, hB⟩ := HD.out
          go_ret2
          have e : nxtP p a = some k := nxtN_some p a 256 k (Nat.le_refl _) (by omega) hlt HP.out hak (fun c _ hc hpc => Int.not_le.2 (hlow c hc (by omega) hpc))
          rw [e]
          exact ⟨rfl, gr_call hB HE.out⟩
      · have HD := Lib.hid (And.intro hlow hB)
        clear hlow hblk hB
        go_wp2_with (fail)
        go_ret2
        have e : nxtP p a = none := nxtN_none p a 256 (Nat.le_refl _) (fun c _ hc hpc => Int.not_le.2 (HD.out.1 c (by omega) hc hpc))
        rw [e]
        exact ⟨rfl, HD.out.2⟩
end Go.Proofs.YtcfdadgijnmemaaDoor
