/-
  BytesetLogic, walked: it returns true, whatever the input; condition: the library's table lies as it is laid.
-/
import Derived.Test.YtcfdadgijnmemaaDoorSetLT
import Derived.Test.YtcfdadgijnmemaaDoorInw
namespace Go.Proofs.YtcfdadgijnmemaaDoor
open Go.RowKit
set_option linter.unusedVariables false
set_option linter.unusedSimpArgs false

theorem notnot (p : Nat → Bool) : notP (notP p) = p := by funext c; simp [notP]
theorem and_not (p : Nat → Bool) : andP p (notP p) = noP := by funext c; simp [notP, andP, noP]
theorem or_not (p : Nat → Bool) : orP p (notP p) = fullP := by funext c; simp [notP, orP, fullP]
theorem and_nots (p q : Nat → Bool) : andP (notP p) (notP q) = notP (orP p q) := by funext c; simp [notP, orP, andP]
theorem cnt_nots (p : Nat → Bool) (n : Nat) : cntP p n + cntP (notP p) n = n := by
  induction n with
  | zero => rfl
  | succ n ih =>
    have e : (p n).toNat + (notP p n).toNat = 1 := by unfold notP; cases p n <;> rfl
    unfold cntP
    omega
theorem cnt_not (p : Nat → Bool) : (cntP p 256 : Int) + (cntP (notP p) 256 : Int) = 256 := by have := cnt_nots p 256; omega
theorem bnotnot (p : Nat → Bool) (W : World) : Calls Tryd.prog 27 #[Value.agg #[.int .u64 (setW (notP p) 0 : Int), .int .u64 (setW (notP p) 1 : Int), .int .u64 (setW (notP p) 2 : Int), .int .u64 (setW (notP p) 3 : Int)]] W fun e w' => e = .returned (Value.agg #[.int .u64 (setW p 0 : Int), .int .u64 (setW p 1 : Int), .int .u64 (setW p 2 : Int), .int .u64 (setW p 3 : Int)]) ∧ Below W.heap.size W w' := by
  have h := bnot (notP p) W
  rw [notnot] at h
  exact h
theorem bcomNot (n : Nat) (p : Nat → Bool) (W : World) (hn : Blk W n 28 #[Value.int .u64 (setW p 0 : Int), .int .u64 (setW p 1 : Int), .int .u64 (setW p 2 : Int), .int .u64 (setW p 3 : Int), Value.int .u64 (setW (notP p) 0 : Int), .int .u64 (setW (notP p) 1 : Int), .int .u64 (setW (notP p) 2 : Int), .int .u64 (setW (notP p) 3 : Int)]) : Calls Tryd.prog 17 #[.slice (some ⟨n, 0, none⟩) 2 2] W fun e w' => e = .returned (.agg #[.int .u64 0, .int .u64 0, .int .u64 0, .int .u64 0]) ∧ Below W.heap.size W w' := by
  have h := bcommon2 n 2 p (notP p) W _ hn
  rw [and_not, setW_no, setW_no, setW_no, setW_no] at h
  exact h
theorem buniNot (n : Nat) (p : Nat → Bool) (W : World) (hn : Blk W n 28 #[Value.int .u64 (setW p 0 : Int), .int .u64 (setW p 1 : Int), .int .u64 (setW p 2 : Int), .int .u64 (setW p 3 : Int), Value.int .u64 (setW (notP p) 0 : Int), .int .u64 (setW (notP p) 1 : Int), .int .u64 (setW (notP p) 2 : Int), .int .u64 (setW (notP p) 3 : Int)]) : Calls Tryd.prog 15 #[.slice (some ⟨n, 0, none⟩) 2 2] W fun e w' => e = .returned (Value.agg #[.int .u64 (setW fullP 0 : Int), .int .u64 (setW fullP 1 : Int), .int .u64 (setW fullP 2 : Int), .int .u64 (setW fullP 3 : Int)]) ∧ Below W.heap.size W w' := by
  have h := bunion2 n 2 p (notP p) W _ hn
  rw [or_not] at h
  exact h
theorem bcomNots (n : Nat) (p q : Nat → Bool) (W : World) (hn : Blk W n 28 #[Value.int .u64 (setW (notP p) 0 : Int), .int .u64 (setW (notP p) 1 : Int), .int .u64 (setW (notP p) 2 : Int), .int .u64 (setW (notP p) 3 : Int), Value.int .u64 (setW (notP q) 0 : Int), .int .u64 (setW (notP q) 1 : Int), .int .u64 (setW (notP q) 2 : Int), .int .u64 (setW (notP q) 3 : Int)]) : Calls Tryd.prog 17 #[.slice (some ⟨n, 0, none⟩) 2 2] W fun e w' => e = .returned (Value.agg #[.int .u64 (setW (notP (orP p q)) 0 : Int), .int .u64 (setW (notP (orP p q)) 1 : Int), .int .u64 (setW (notP (orP p q)) 2 : Int), .int .u64 (setW (notP (orP p q)) 3 : Int)]) ∧ Below W.heap.size W w' := by
  have h := bcommon2 n 2 (notP p) (notP q) W _ hn
  rw [and_nots] at h
  exact h
theorem bcomAll (W : World) : Calls Tryd.prog 17 #[.slice none 0 0] W fun e w' => e = .returned (Value.agg #[.int .u64 (setW fullP 0 : Int), .int .u64 (setW fullP 1 : Int), .int .u64 (setW fullP 2 : Int), .int .u64 (setW fullP 3 : Int)]) ∧ Below W.heap.size W w' := bcommon none 0 0 (fun _ => noP) (by decide) W (fun h => absurd h (by decide))
theorem eqSelf (p : Nat → Bool) (W : World) : (Op.equalIn 10000 28 (Value.agg #[.int .u64 (setW p 0 : Int), .int .u64 (setW p 1 : Int), .int .u64 (setW p 2 : Int), .int .u64 (setW p 3 : Int)]) (Value.agg #[.int .u64 (setW p 0 : Int), .int .u64 (setW p 1 : Int), .int .u64 (setW p 2 : Int), .int .u64 (setW p 3 : Int)])).run Tryd.prog W = .ok true W := by rw [eqSet p p W, eqP_self]
theorem eqNo (W : World) : (Op.equalIn 10000 28 (.agg #[.int .u64 0, .int .u64 0, .int .u64 0, .int .u64 0]) (.agg #[.int .u64 0, .int .u64 0, .int .u64 0, .int .u64 0])).run Tryd.prog W = .ok true W := by
  have h := eqSelf noP W
  rw [setW_no, setW_no, setW_no, setW_no] at h
  exact h

set_option maxRecDepth 100000 in
set_option maxHeartbeats 8000000 in
theorem law_logic (p q : Nat → Bool) (w : World) (hT : TabOk w) (hw : 0 < w.heap.size) :
    Calls Tryd.prog 7 #[Value.agg #[.int .u64 (setW p 0 : Int), .int .u64 (setW p 1 : Int), .int .u64 (setW p 2 : Int), .int .u64 (setW p 3 : Int)], Value.agg #[.int .u64 (setW q 0 : Int), .int .u64 (setW q 1 : Int), .int .u64 (setW q 2 : Int), .int .u64 (setW q 3 : Int)]] w fun e w' => e = .returned (.bool true) ∧ Below w.heap.size w w' := by
  have i0 := gr_alloc (gr_alloc (Below.refl w.heap.size w) (.cells #[Value.int .u64 (setW p 0 : Int), .int .u64 (setW p 1 : Int), .int .u64 (setW p 2 : Int), .int .u64 (setW p 3 : Int)] 28)) (.cells #[Value.int .u64 (setW q 0 : Int), .int .u64 (setW q 1 : Int), .int .u64 (setW q 2 : Int), .int .u64 (setW q 3 : Int)] 28)
  have f0 := (Blk.new w 28 #[Value.int .u64 (setW p 0 : Int), .int .u64 (setW p 1 : Int), .int .u64 (setW p 2 : Int), .int .u64 (setW p 3 : Int)]).alloc (.cells #[Value.int .u64 (setW q 0 : Int), .int .u64 (setW q 1 : Int), .int .u64 (setW q 2 : Int), .int .u64 (setW q 3 : Int)] 28)
  have g0 : Blk ((w.alloc (.cells #[Value.int .u64 (setW p 0 : Int), .int .u64 (setW p 1 : Int), .int .u64 (setW p 2 : Int), .int .u64 (setW p 3 : Int)] 28)).alloc (.cells #[Value.int .u64 (setW q 0 : Int), .int .u64 (setW q 1 : Int), .int .u64 (setW q 2 : Int), .int .u64 (setW q 3 : Int)] 28)) (w.heap.size + 1) 28 #[Value.int .u64 (setW q 0 : Int), .int .u64 (setW q 1 : Int), .int .u64 (setW q 2 : Int), .int .u64 (setW q 3 : Int)] := blk_at (by simp)
  have H0 := Lib.hid (And.intro f0 (And.intro g0 i0))
  have T0 := hT.below i0 hw
  have hw0 := Nat.lt_of_lt_of_le hw i0.size
  clear f0 g0 i0
  go_enter Tryd.func7, Tryd.ntmps7
  go_wp2_with (fail)
  refine (known _ T0 hw0).mono ?_
  rintro e W1 ⟨rfl, h1⟩
  have f1 := H0.out.1.call h1
  have g1 := H0.out.2.1.call h1
  have i1 := gr_call H0.out.2.2 h1
  have H1 := Lib.hid (And.intro f1 (And.intro g1 i1))
  clear f1 g1 i1 h1 T0 hw0 hT
  go_wp2_with (fail)
  refine wp_region_late 6 [6, 7] (fun d x v => match d with
    | 10 => v = Value.agg #[.int .u64 (setW p 0 : Int), .int .u64 (setW p 1 : Int), .int .u64 (setW p 2 : Int), .int .u64 (setW p 3 : Int)]
    | 11 => v = Value.agg #[.int .u64 (setW (notP p) 0 : Int), .int .u64 (setW (notP p) 1 : Int), .int .u64 (setW (notP p) 2 : Int), .int .u64 (setW (notP p) 3 : Int)]
    | 12 => v = Value.agg #[.int .u64 (setW q 0 : Int), .int .u64 (setW q 1 : Int), .int .u64 (setW q 2 : Int), .int .u64 (setW q 3 : Int)]
    | 13 => v = Value.agg #[.int .u64 (setW (notP q) 0 : Int), .int .u64 (setW (notP q) 1 : Int), .int .u64 (setW (notP q) 2 : Int), .int .u64 (setW (notP q) 3 : Int)]
    | 6 => ∃ g, v = .pointer (some ⟨g, 0, none⟩) ∧ Blk x g 28 #[.int .u64 0, .int .u64 0, .int .u64 0, .int .u64 0] ∧ W1.heap.size ≤ g
    | 7 => ∃ g, v = .pointer (some ⟨g, 0, none⟩) ∧ Blk x g 28 #[.int .u64 0, .int .u64 0, .int .u64 0, .int .u64 0] ∧ W1.heap.size ≤ g
    | _ => v = .bool true) (by kernel_rfl) (by kernel_rfl) (by kernel_rfl) (by kernel_rfl) (by decide) ?stable ?dist ?steps ?fin
  case stable =>
    intro d x x' v hB h
    revert h
    split <;> intro h <;> first | exact h | (obtain ⟨g, e1, e2, e3⟩ := h; exact ⟨g, e1, e2.call hB, e3⟩)
  case dist =>
    intro d hd x v h
    have hd' : d = 6 ∨ d = 7 := by simpa using hd
    rcases hd' with rfl | rfl <;> (obtain ⟨g, e1, e2, e3⟩ := h; exact ⟨g, e1, e2.lt⟩)
  case steps =>
    refine ⟨?_, ?_⟩
    · intro a w' hB hsz hbase hdeps K hK
      obtain ⟨ev, hev⟩ : ∃ ev, ev = a.eval := ⟨_, rfl⟩
      have hec : ∀ v, ev (.const v) = v := fun v => by rw [hev]; rfl
      have hef : ∀ f, ev (.func f) = .func (.func f) #[] #[] := fun f => by rw [hev]; rfl
      rw [← hev] at hbase hdeps
      have b2 : ev (.tmp 2) = (.pointer (some ⟨w.heap.size, 0, none⟩)) := hbase 2 (by kernel_rfl)
      rw [if_pos (by kernel_rfl)]
      left
      have fx := H1.out.1.call hB
      have gx := H1.out.2.1.call hB
      have zx := gx.lt
      have a0 := fx.cell' (i := 0) rfl
      have a1 := fx.cell' (i := 1) rfl
      have a2 := fx.cell' (i := 2) rfl
      have a3 := fx.cell' (i := 3) rfl
      have b0 := gx.cell' (i := 0) rfl
      have b1 := gx.cell' (i := 1) rfl
      have b2 := gx.cell' (i := 2) rfl
      have b3 := gx.cell' (i := 3) rfl
      clear fx gx
      refine step_val (v := Value.agg #[.int .u64 (setW p 0 : Int), .int .u64 (setW p 1 : Int), .int .u64 (setW p 2 : Int), .int .u64 (setW p 3 : Int)]) (w' := w') ?_ (hK _ _ (Below.refl _ _) (by intro d hd; cases hd; exact rfl) (by intro d hd hm; cases hd; exact absurd hm (by decide)))
      rw [← hev]
      clear hK hdeps hbase hev
      simp only [execOp, hec, hef, b2]
      go_simp
    refine ⟨?_, ?_⟩
    · intro a w' hB hsz hbase hdeps K hK
      obtain ⟨ev, hev⟩ : ∃ ev, ev = a.eval := ⟨_, rfl⟩
      have hec : ∀ v, ev (.const v) = v := fun v => by rw [hev]; rfl
      have hef : ∀ f, ev (.func f) = .func (.func f) #[] #[] := fun f => by rw [hev]; rfl
      rw [← hev] at hbase hdeps
      have d10 : ev (.tmp 10) = Value.agg #[.int .u64 (setW p 0 : Int), .int .u64 (setW p 1 : Int), .int .u64 (setW p 2 : Int), .int .u64 (setW p 3 : Int)] := hdeps 10 (of_decide_eq_true (by kernel_rfl))
      rw [if_pos (by kernel_rfl)]
      left
      refine step_enter (w' := w') (f := 27) (args := #[Value.agg #[.int .u64 (setW p 0 : Int), .int .u64 (setW p 1 : Int), .int .u64 (setW p 2 : Int), .int .u64 (setW p 3 : Int)]]) ?_ ?_
      · rw [← hev]
        clear hK hdeps hbase hev
        simp only [execOp, hec, hef, d10]
        go_simp
      · refine (bnot p _).mono ?_
        rintro e W ⟨rfl, hb⟩
        exact ⟨_, rfl, hK _ _ hb (by intro d hd; cases hd; exact rfl) (by intro d hd hm; cases hd; exact absurd hm (by decide))⟩
    refine ⟨?_, ?_⟩
    · intro a w' hB hsz hbase hdeps K hK
      obtain ⟨ev, hev⟩ : ∃ ev, ev = a.eval := ⟨_, rfl⟩
      have hec : ∀ v, ev (.const v) = v := fun v => by rw [hev]; rfl
      have hef : ∀ f, ev (.func f) = .func (.func f) #[] #[] := fun f => by rw [hev]; rfl
      rw [← hev] at hbase hdeps
      have b3 : ev (.tmp 3) = (.pointer (some ⟨w.heap.size + 1, 0, none⟩)) := hbase 3 (by kernel_rfl)
      rw [if_pos (by kernel_rfl)]
      left
      have fx := H1.out.1.call hB
      have gx := H1.out.2.1.call hB
      have zx := gx.lt
      have a0 := fx.cell' (i := 0) rfl
      have a1 := fx.cell' (i := 1) rfl
      have a2 := fx.cell' (i := 2) rfl
      have a3 := fx.cell' (i := 3) rfl
      have b0 := gx.cell' (i := 0) rfl
      have b1 := gx.cell' (i := 1) rfl
      have b2 := gx.cell' (i := 2) rfl
      have b3 := gx.cell' (i := 3) rfl
      clear fx gx
      refine step_val (v := Value.agg #[.int .u64 (setW q 0 : Int), .int .u64 (setW q 1 : Int), .int .u64 (setW q 2 : Int), .int .u64 (setW q 3 : Int)]) (w' := w') ?_ (hK _ _ (Below.refl _ _) (by intro d hd; cases hd; exact rfl) (by intro d hd hm; cases hd; exact absurd hm (by decide)))
      rw [← hev]
      clear hK hdeps hbase hev
      simp only [execOp, hec, hef, b3]
      go_simp
    refine ⟨?_, ?_⟩
    · intro a w' hB hsz hbase hdeps K hK
      obtain ⟨ev, hev⟩ : ∃ ev, ev = a.eval := ⟨_, rfl⟩
      have hec : ∀ v, ev (.const v) = v := fun v => by rw [hev]; rfl
      have hef : ∀ f, ev (.func f) = .func (.func f) #[] #[] := fun f => by rw [hev]; rfl
      rw [← hev] at hbase hdeps
      have d12 : ev (.tmp 12) = Value.agg #[.int .u64 (setW q 0 : Int), .int .u64 (setW q 1 : Int), .int .u64 (setW q 2 : Int), .int .u64 (setW q 3 : Int)] := hdeps 12 (of_decide_eq_true (by kernel_rfl))
      rw [if_pos (by kernel_rfl)]
      left
      refine step_enter (w' := w') (f := 27) (args := #[Value.agg #[.int .u64 (setW q 0 : Int), .int .u64 (setW q 1 : Int), .int .u64 (setW q 2 : Int), .int .u64 (setW q 3 : Int)]]) ?_ ?_
      · rw [← hev]
        clear hK hdeps hbase hev
        simp only [execOp, hec, hef, d12]
        go_simp
      · refine (bnot q _).mono ?_
        rintro e W ⟨rfl, hb⟩
        exact ⟨_, rfl, hK _ _ hb (by intro d hd; cases hd; exact rfl) (by intro d hd hm; cases hd; exact absurd hm (by decide))⟩
    refine ⟨?_, ?_⟩
    · intro a w' hB hsz hbase hdeps K hK
      obtain ⟨ev, hev⟩ : ∃ ev, ev = a.eval := ⟨_, rfl⟩
      have hec : ∀ v, ev (.const v) = v := fun v => by rw [hev]; rfl
      have hef : ∀ f, ev (.func f) = .func (.func f) #[] #[] := fun f => by rw [hev]; rfl
      rw [← hev] at hbase hdeps
      rw [if_pos (by kernel_rfl)]
      left
      refine step_val (v := .pointer (some ⟨w'.heap.size, 0, none⟩)) (w' := w'.alloc (.cells #[.int .u64 0, .int .u64 0, .int .u64 0, .int .u64 0] 28)) ?_ (hK _ _ (gr_alloc (Below.refl _ _) _) (by intro d hd; cases hd; exact ⟨_, rfl, Blk.new _ _ _, hB.size⟩) (by intro d hd hm; cases hd; exact ⟨_, rfl, Nat.le_refl _⟩))
      rw [← hev]
      clear hK hdeps hbase hev
      simp only [execOp, hec, hef]
      go_simp
    refine ⟨?_, ?_⟩
    · intro a w' hB hsz hbase hdeps K hK
      obtain ⟨ev, hev⟩ : ∃ ev, ev = a.eval := ⟨_, rfl⟩
      have hec : ∀ v, ev (.const v) = v := fun v => by rw [hev]; rfl
      have hef : ∀ f, ev (.func f) = .func (.func f) #[] #[] := fun f => by rw [hev]; rfl
      rw [← hev] at hbase hdeps
      rw [if_pos (by kernel_rfl)]
      left
      refine step_val (v := .pointer (some ⟨w'.heap.size, 0, none⟩)) (w' := w'.alloc (.cells #[.int .u64 0, .int .u64 0, .int .u64 0, .int .u64 0] 28)) ?_ (hK _ _ (gr_alloc (Below.refl _ _) _) (by intro d hd; cases hd; exact ⟨_, rfl, Blk.new _ _ _, hB.size⟩) (by intro d hd hm; cases hd; exact ⟨_, rfl, Nat.le_refl _⟩))
      rw [← hev]
      clear hK hdeps hbase hev
      simp only [execOp, hec, hef]
      go_simp
    exact trivial

  case fin =>
    intro a x hB hsz hdef hbase hS hD
    obtain ⟨g, hg, hgB, hgs⟩ := hS _ (List.mem_of_getElem? (i := 4) rfl) 6 rfl
    obtain ⟨h, hh, hhB, hhs⟩ := hS _ (List.mem_of_getElem? (i := 5) rfl) 7 rfl
    have hne := hD 6 (by decide) 7 (by decide) (by decide) (by kernel_rfl) (by kernel_rfl) g h hg hh
    have v11 : a.eval (.tmp 11) = Value.agg #[.int .u64 (setW (notP p) 0 : Int), .int .u64 (setW (notP p) 1 : Int), .int .u64 (setW (notP p) 2 : Int), .int .u64 (setW (notP p) 3 : Int)] := hS _ (List.mem_of_getElem? (i := 1) rfl) 11 rfl
    have v13 : a.eval (.tmp 13) = Value.agg #[.int .u64 (setW (notP q) 0 : Int), .int .u64 (setW (notP q) 1 : Int), .int .u64 (setW (notP q) 2 : Int), .int .u64 (setW (notP q) 3 : Int)] := hS _ (List.mem_of_getElem? (i := 3) rfl) 13 rfl
    have v10 : a.eval (.tmp 10) = Value.agg #[.int .u64 (setW p 0 : Int), .int .u64 (setW p 1 : Int), .int .u64 (setW p 2 : Int), .int .u64 (setW p 3 : Int)] := hS _ (List.mem_of_getElem? (i := 0) rfl) 10 rfl
    have v12 : a.eval (.tmp 12) = Value.agg #[.int .u64 (setW q 0 : Int), .int .u64 (setW q 1 : Int), .int .u64 (setW q 2 : Int), .int .u64 (setW q 3 : Int)] := hS _ (List.mem_of_getElem? (i := 2) rfl) 12 rfl
    have ha := act_over [(6, (.pointer (some ⟨g, 0, none⟩))), (7, (.pointer (some ⟨h, 0, none⟩))), (10, Value.agg #[.int .u64 (setW p 0 : Int), .int .u64 (setW p 1 : Int), .int .u64 (setW p 2 : Int), .int .u64 (setW p 3 : Int)]), (11, Value.agg #[.int .u64 (setW (notP p) 0 : Int), .int .u64 (setW (notP p) 1 : Int), .int .u64 (setW (notP p) 2 : Int), .int .u64 (setW (notP p) 3 : Int)]), (12, Value.agg #[.int .u64 (setW q 0 : Int), .int .u64 (setW q 1 : Int), .int .u64 (setW q 2 : Int), .int .u64 (setW q 3 : Int)]), (13, Value.agg #[.int .u64 (setW (notP q) 0 : Int), .int .u64 (setW (notP q) 1 : Int), .int .u64 (setW (notP q) 2 : Int), .int .u64 (setW (notP q) 3 : Int)])] hsz hdef hbase (by kernel_rfl) ⟨hg, hh, v10, v11, v12, v13, trivial⟩
    have f2 := H1.out.1.call hB
    have g2 := H1.out.2.1.call hB
    have i2 := gr_call H1.out.2.2 hB
    have hs1 := H1.out.1.lt
    have hs2 := H1.out.2.1.lt
    clear hsz hdef hbase hS hD hg hh v10 v11 v12 v13 H0 H1
    subst ha
    simp only [List.drop, putAll]
    have a0 := hgB.cell' (i := 0) rfl
    have a1 := hgB.cell' (i := 1) rfl
    have a2 := hgB.cell' (i := 2) rfl
    have a3 := hgB.cell' (i := 3) rfl
    have b0 := hhB.cell' (i := 0) rfl
    have b1 := hhB.cell' (i := 1) rfl
    have b2 := hhB.cell' (i := 2) rfl
    have b3 := hhB.cell' (i := 3) rfl
    have c0 := hgB.frozen 0
    have c1 := hgB.frozen 1
    have c2 := hgB.frozen 2
    have c3 := hgB.frozen 3
    have d0 := hhB.frozen 0
    have d1 := hhB.frozen 1
    have d2 := hhB.frozen 2
    have d3 := hhB.frozen 3
    have zg := hgB.lt
    have zh := hhB.lt
    have hne' : h ≠ g := Ne.symm hne
    go_wp2_with (fail)
    have n1 : w.heap.size ≠ g := by omega
    have n2 : w.heap.size ≠ h := by omega
    have n3 : w.heap.size + 1 ≠ g := by omega
    have n4 : w.heap.size + 1 ≠ h := by omega
    have l1 : w.heap.size ≤ g := by omega
    have l2 : w.heap.size ≤ h := by omega
    have x2 := ((((((((f2.far (p := ⟨g, 0, none⟩) n1 (.int .u64 (setW (notP p) 0 : Int))).far (p := ⟨g, 1, none⟩) n1 (.int .u64 (setW (notP p) 1 : Int))).far (p := ⟨g, 2, none⟩) n1 (.int .u64 (setW (notP p) 2 : Int))).far (p := ⟨g, 3, none⟩) n1 (.int .u64 (setW (notP p) 3 : Int))).far (p := ⟨h, 0, none⟩) n2 (.int .u64 (setW (notP q) 0 : Int))).far (p := ⟨h, 1, none⟩) n2 (.int .u64 (setW (notP q) 1 : Int))).far (p := ⟨h, 2, none⟩) n2 (.int .u64 (setW (notP q) 2 : Int))).far (p := ⟨h, 3, none⟩) n2 (.int .u64 (setW (notP q) 3 : Int)))
    have x3 := ((((((((g2.far (p := ⟨g, 0, none⟩) n3 (.int .u64 (setW (notP p) 0 : Int))).far (p := ⟨g, 1, none⟩) n3 (.int .u64 (setW (notP p) 1 : Int))).far (p := ⟨g, 2, none⟩) n3 (.int .u64 (setW (notP p) 2 : Int))).far (p := ⟨g, 3, none⟩) n3 (.int .u64 (setW (notP p) 3 : Int))).far (p := ⟨h, 0, none⟩) n4 (.int .u64 (setW (notP q) 0 : Int))).far (p := ⟨h, 1, none⟩) n4 (.int .u64 (setW (notP q) 1 : Int))).far (p := ⟨h, 2, none⟩) n4 (.int .u64 (setW (notP q) 2 : Int))).far (p := ⟨h, 3, none⟩) n4 (.int .u64 (setW (notP q) 3 : Int)))
    have x6 := ((((((((hgB.set_ 0 (.int .u64 (setW (notP p) 0 : Int))).set_ 1 (.int .u64 (setW (notP p) 1 : Int))).set_ 2 (.int .u64 (setW (notP p) 2 : Int))).set_ 3 (.int .u64 (setW (notP p) 3 : Int))).far (p := ⟨h, 0, none⟩) hne (.int .u64 (setW (notP q) 0 : Int))).far (p := ⟨h, 1, none⟩) hne (.int .u64 (setW (notP q) 1 : Int))).far (p := ⟨h, 2, none⟩) hne (.int .u64 (setW (notP q) 2 : Int))).far (p := ⟨h, 3, none⟩) hne (.int .u64 (setW (notP q) 3 : Int)))
    have x7 := ((((((((hhB.far (p := ⟨g, 0, none⟩) hne' (.int .u64 (setW (notP p) 0 : Int))).far (p := ⟨g, 1, none⟩) hne' (.int .u64 (setW (notP p) 1 : Int))).far (p := ⟨g, 2, none⟩) hne' (.int .u64 (setW (notP p) 2 : Int))).far (p := ⟨g, 3, none⟩) hne' (.int .u64 (setW (notP p) 3 : Int))).set_ 0 (.int .u64 (setW (notP q) 0 : Int))).set_ 1 (.int .u64 (setW (notP q) 1 : Int))).set_ 2 (.int .u64 (setW (notP q) 2 : Int))).set_ 3 (.int .u64 (setW (notP q) 3 : Int)))
    have ix := (gr_set (gr_set (gr_set (gr_set (gr_set (gr_set (gr_set (gr_set i2 (p := ⟨g, 0, none⟩) l1 (.int .u64 (setW (notP p) 0 : Int))) (p := ⟨g, 1, none⟩) l1 (.int .u64 (setW (notP p) 1 : Int))) (p := ⟨g, 2, none⟩) l1 (.int .u64 (setW (notP p) 2 : Int))) (p := ⟨g, 3, none⟩) l1 (.int .u64 (setW (notP p) 3 : Int))) (p := ⟨h, 0, none⟩) l2 (.int .u64 (setW (notP q) 0 : Int))) (p := ⟨h, 1, none⟩) l2 (.int .u64 (setW (notP q) 1 : Int))) (p := ⟨h, 2, none⟩) l2 (.int .u64 (setW (notP q) 2 : Int))) (p := ⟨h, 3, none⟩) l2 (.int .u64 (setW (notP q) 3 : Int)))
    simp only [List.setIfInBounds_toArray, List.set_cons_zero, List.set_cons_succ] at x6 x7
    have H3 := Lib.hid (And.intro x2 (And.intro x3 (And.intro x6 (And.intro x7 ix))))
    clear x2 x3 x6 x7 ix hgB hhB f2 g2 i2 n1 n2 n3 n4 l1 l2 hB
    refine (bcomAll _).mono ?_
    rintro e W3 ⟨rfl, h3⟩
    have x2 := (H3.out.1.call h3).alloc (.cells #[Value.int .u64 (setW fullP 0 : Int), .int .u64 (setW fullP 1 : Int), .int .u64 (setW fullP 2 : Int), .int .u64 (setW fullP 3 : Int)] 28)
    have x3 := (H3.out.2.1.call h3).alloc (.cells #[Value.int .u64 (setW fullP 0 : Int), .int .u64 (setW fullP 1 : Int), .int .u64 (setW fullP 2 : Int), .int .u64 (setW fullP 3 : Int)] 28)
    have x6 := (H3.out.2.2.1.call h3).alloc (.cells #[Value.int .u64 (setW fullP 0 : Int), .int .u64 (setW fullP 1 : Int), .int .u64 (setW fullP 2 : Int), .int .u64 (setW fullP 3 : Int)] 28)
    have x7 := (H3.out.2.2.2.1.call h3).alloc (.cells #[Value.int .u64 (setW fullP 0 : Int), .int .u64 (setW fullP 1 : Int), .int .u64 (setW fullP 2 : Int), .int .u64 (setW fullP 3 : Int)] 28)
    have x8 := Blk.new W3 28 #[Value.int .u64 (setW fullP 0 : Int), .int .u64 (setW fullP 1 : Int), .int .u64 (setW fullP 2 : Int), .int .u64 (setW fullP 3 : Int)]
    have ix := gr_alloc (gr_call H3.out.2.2.2.2 h3) (.cells #[Value.int .u64 (setW fullP 0 : Int), .int .u64 (setW fullP 1 : Int), .int .u64 (setW fullP 2 : Int), .int .u64 (setW fullP 3 : Int)] 28)
    clear h3 H3 a0 a1 a2 a3 b0 b1 b2 b3 c0 c1 c2 c3 d0 d1 d2 d3 zg zh
    go_wp2_with (fail)
    generalize hX : W3.alloc (.cells #[Value.int .u64 (setW fullP 0 : Int), .int .u64 (setW fullP 1 : Int), .int .u64 (setW fullP 2 : Int), .int .u64 (setW fullP 3 : Int)] 28) = X at x2 x3 x6 x7 x8 ix ⊢
    generalize hn8 : W3.heap.size = n8 at x8 ⊢
    have H4 := Lib.hid (And.intro x2 (And.intro x3 (And.intro x6 (And.intro x7 (And.intro x8 ix)))))
    clear x2 x3 x6 x7 x8 ix hX hn8
    refine wp_region_late 44 [] (fun d x v => match d with
    | 17 => v = Value.agg #[.int .u64 (setW (notP p) 0 : Int), .int .u64 (setW (notP p) 1 : Int), .int .u64 (setW (notP p) 2 : Int), .int .u64 (setW (notP p) 3 : Int)]
    | 18 => v = Value.agg #[.int .u64 (setW p 0 : Int), .int .u64 (setW p 1 : Int), .int .u64 (setW p 2 : Int), .int .u64 (setW p 3 : Int)]
    | 19 => v = Value.agg #[.int .u64 (setW p 0 : Int), .int .u64 (setW p 1 : Int), .int .u64 (setW p 2 : Int), .int .u64 (setW p 3 : Int)]
    | 23 => v = Value.agg #[.int .u64 (setW p 0 : Int), .int .u64 (setW p 1 : Int), .int .u64 (setW p 2 : Int), .int .u64 (setW p 3 : Int)]
    | 24 => v = Value.agg #[.int .u64 (setW (notP p) 0 : Int), .int .u64 (setW (notP p) 1 : Int), .int .u64 (setW (notP p) 2 : Int), .int .u64 (setW (notP p) 3 : Int)]
    | 25 => ∃ n, v = .slice (some ⟨n, 0, none⟩) 2 2 ∧ Blk x n 28 #[Value.int .u64 (setW p 0 : Int), .int .u64 (setW p 1 : Int), .int .u64 (setW p 2 : Int), .int .u64 (setW p 3 : Int), Value.int .u64 (setW (notP p) 0 : Int), .int .u64 (setW (notP p) 1 : Int), .int .u64 (setW (notP p) 2 : Int), .int .u64 (setW (notP p) 3 : Int)]
    | 26 => v = .agg #[.int .u64 0, .int .u64 0, .int .u64 0, .int .u64 0]
    | 27 => v = .agg #[.int .u64 0, .int .u64 0, .int .u64 0, .int .u64 0]
    | 31 => v = Value.agg #[.int .u64 (setW p 0 : Int), .int .u64 (setW p 1 : Int), .int .u64 (setW p 2 : Int), .int .u64 (setW p 3 : Int)]
    | 32 => v = Value.agg #[.int .u64 (setW (notP p) 0 : Int), .int .u64 (setW (notP p) 1 : Int), .int .u64 (setW (notP p) 2 : Int), .int .u64 (setW (notP p) 3 : Int)]
    | 33 => ∃ n, v = .slice (some ⟨n, 0, none⟩) 2 2 ∧ Blk x n 28 #[Value.int .u64 (setW p 0 : Int), .int .u64 (setW p 1 : Int), .int .u64 (setW p 2 : Int), .int .u64 (setW p 3 : Int), Value.int .u64 (setW (notP p) 0 : Int), .int .u64 (setW (notP p) 1 : Int), .int .u64 (setW (notP p) 2 : Int), .int .u64 (setW (notP p) 3 : Int)]
    | 34 => v = Value.agg #[.int .u64 (setW fullP 0 : Int), .int .u64 (setW fullP 1 : Int), .int .u64 (setW fullP 2 : Int), .int .u64 (setW fullP 3 : Int)]
    | 35 => v = Value.agg #[.int .u64 (setW fullP 0 : Int), .int .u64 (setW fullP 1 : Int), .int .u64 (setW fullP 2 : Int), .int .u64 (setW fullP 3 : Int)]
    | 39 => v = Value.agg #[.int .u64 (setW p 0 : Int), .int .u64 (setW p 1 : Int), .int .u64 (setW p 2 : Int), .int .u64 (setW p 3 : Int)]
    | 40 => v = Value.agg #[.int .u64 (setW q 0 : Int), .int .u64 (setW q 1 : Int), .int .u64 (setW q 2 : Int), .int .u64 (setW q 3 : Int)]
    | 41 => ∃ n, v = .slice (some ⟨n, 0, none⟩) 2 2 ∧ Blk x n 28 #[Value.int .u64 (setW p 0 : Int), .int .u64 (setW p 1 : Int), .int .u64 (setW p 2 : Int), .int .u64 (setW p 3 : Int), Value.int .u64 (setW q 0 : Int), .int .u64 (setW q 1 : Int), .int .u64 (setW q 2 : Int), .int .u64 (setW q 3 : Int)]
    | 42 => v = Value.agg #[.int .u64 (setW (orP p q) 0 : Int), .int .u64 (setW (orP p q) 1 : Int), .int .u64 (setW (orP p q) 2 : Int), .int .u64 (setW (orP p q) 3 : Int)]
    | 43 => v = Value.agg #[.int .u64 (setW (notP (orP p q)) 0 : Int), .int .u64 (setW (notP (orP p q)) 1 : Int), .int .u64 (setW (notP (orP p q)) 2 : Int), .int .u64 (setW (notP (orP p q)) 3 : Int)]
    | 44 => v = Value.agg #[.int .u64 (setW (notP p) 0 : Int), .int .u64 (setW (notP p) 1 : Int), .int .u64 (setW (notP p) 2 : Int), .int .u64 (setW (notP p) 3 : Int)]
    | 45 => v = Value.agg #[.int .u64 (setW (notP q) 0 : Int), .int .u64 (setW (notP q) 1 : Int), .int .u64 (setW (notP q) 2 : Int), .int .u64 (setW (notP q) 3 : Int)]
    | 46 => ∃ n, v = .slice (some ⟨n, 0, none⟩) 2 2 ∧ Blk x n 28 #[Value.int .u64 (setW (notP p) 0 : Int), .int .u64 (setW (notP p) 1 : Int), .int .u64 (setW (notP p) 2 : Int), .int .u64 (setW (notP p) 3 : Int), Value.int .u64 (setW (notP q) 0 : Int), .int .u64 (setW (notP q) 1 : Int), .int .u64 (setW (notP q) 2 : Int), .int .u64 (setW (notP q) 3 : Int)]
    | 47 => v = Value.agg #[.int .u64 (setW (notP (orP p q)) 0 : Int), .int .u64 (setW (notP (orP p q)) 1 : Int), .int .u64 (setW (notP (orP p q)) 2 : Int), .int .u64 (setW (notP (orP p q)) 3 : Int)]
    | 51 => v = Value.agg #[.int .u64 (setW p 0 : Int), .int .u64 (setW p 1 : Int), .int .u64 (setW p 2 : Int), .int .u64 (setW p 3 : Int)]
    | 52 => v = .int .i64 (cntP p 256 : Int)
    | 53 => v = Value.agg #[.int .u64 (setW (notP p) 0 : Int), .int .u64 (setW (notP p) 1 : Int), .int .u64 (setW (notP p) 2 : Int), .int .u64 (setW (notP p) 3 : Int)]
    | 54 => v = .int .i64 (cntP (notP p) 256 : Int)
    | 55 => v = .int .i64 256
    | _ => v = .bool true) (by kernel_rfl) (by kernel_rfl) (by kernel_rfl) (by kernel_rfl) (by decide) ?stable4 ?dist4 ?steps4 ?fin4
    case stable4 =>
      intro d x x' v hB h
      revert h
      split <;> intro h <;> first | exact h | (obtain ⟨g, e1, e2⟩ := h; exact ⟨g, e1, e2.call hB⟩)
    case dist4 =>
      intro d hd
      cases hd
    case steps4 =>
      refine ⟨?_, ?_⟩
      · intro a w' hB hsz hbase hdeps K hK
        obtain ⟨ev, hev⟩ : ∃ ev, ev = a.eval := ⟨_, rfl⟩
        have hec : ∀ v, ev (.const v) = v := fun v => by rw [hev]; rfl
        have hef : ∀ f, ev (.func f) = .func (.func f) #[] #[] := fun f => by rw [hev]; rfl
        rw [← hev] at hbase hdeps
        have b5 : ev (.tmp 5) = .bool true := hbase 5 (by kernel_rfl)
        rw [if_pos (by kernel_rfl)]
        left
        refine step_val (v := .bool true) (w' := w') ?_ (hK _ _ (Below.refl _ _) (by intro d hd; cases hd; exact rfl) (by intro d hd hm; cases hd; exact absurd hm (by decide)))
        rw [← hev]
        clear hK hdeps hbase hev
        simp only [execOp, hec, hef, b5]
        go_simp
      refine ⟨?_, ?_⟩
      · intro a w' hB hsz hbase hdeps K hK
        obtain ⟨ev, hev⟩ : ∃ ev, ev = a.eval := ⟨_, rfl⟩
        have hec : ∀ v, ev (.const v) = v := fun v => by rw [hev]; rfl
        have hef : ∀ f, ev (.func f) = .func (.func f) #[] #[] := fun f => by rw [hev]; rfl
        rw [← hev] at hbase hdeps
        have d15 : ev (.tmp 15) = .bool true := hdeps 15 (of_decide_eq_true (by kernel_rfl))
        rw [if_pos (by kernel_rfl)]
        left
        refine step_val (v := .bool true) (w' := w') ?_ (hK _ _ (Below.refl _ _) (by intro d hd; cases hd; exact rfl) (by intro d hd hm; cases hd; exact absurd hm (by decide)))
        rw [← hev]
        clear hK hdeps hbase hev
        simp only [execOp, hec, hef, d15]
        go_simp
      refine ⟨?_, ?_⟩
      · intro a w' hB hsz hbase hdeps K hK
        obtain ⟨ev, hev⟩ : ∃ ev, ev = a.eval := ⟨_, rfl⟩
        have hec : ∀ v, ev (.const v) = v := fun v => by rw [hev]; rfl
        have hef : ∀ f, ev (.func f) = .func (.func f) #[] #[] := fun f => by rw [hev]; rfl
        rw [← hev] at hbase hdeps
        have b6 : ev (.tmp 6) = (.pointer (some ⟨g, 0, none⟩)) := hbase 6 (by kernel_rfl)
        rw [if_pos (wanted_of (j := 1) (b := true) (d := 16) rfl (by kernel_rfl) (by rw [← hev]; exact hdeps 16 (of_decide_eq_true (by kernel_rfl))))]
        left
        have x2 := H4.out.1.call hB
        have x3 := H4.out.2.1.call hB
        have x6 := H4.out.2.2.1.call hB
        have x7 := H4.out.2.2.2.1.call hB
        have x8 := H4.out.2.2.2.2.1.call hB
        have z2 := x2.lt
        have z3 := x3.lt
        have z6 := x6.lt
        have z7 := x7.lt
        have z8 := x8.lt
        have a0 := x2.cell' (i := 0) rfl
        have a1 := x2.cell' (i := 1) rfl
        have a2 := x2.cell' (i := 2) rfl
        have a3 := x2.cell' (i := 3) rfl
        have b0 := x3.cell' (i := 0) rfl
        have b1 := x3.cell' (i := 1) rfl
        have b2 := x3.cell' (i := 2) rfl
        have b3 := x3.cell' (i := 3) rfl
        have c0 := x6.cell' (i := 0) rfl
        have c1 := x6.cell' (i := 1) rfl
        have c2 := x6.cell' (i := 2) rfl
        have c3 := x6.cell' (i := 3) rfl
        have e0 := x7.cell' (i := 0) rfl
        have e1 := x7.cell' (i := 1) rfl
        have e2 := x7.cell' (i := 2) rfl
        have e3 := x7.cell' (i := 3) rfl
        have f0 := x8.cell' (i := 0) rfl
        have f1 := x8.cell' (i := 1) rfl
        have f2 := x8.cell' (i := 2) rfl
        have f3 := x8.cell' (i := 3) rfl
        clear x2 x3 x6 x7 x8
        refine step_val (v := Value.agg #[.int .u64 (setW (notP p) 0 : Int), .int .u64 (setW (notP p) 1 : Int), .int .u64 (setW (notP p) 2 : Int), .int .u64 (setW (notP p) 3 : Int)]) (w' := w') ?_ (hK _ _ (Below.refl _ _) (by intro d hd; cases hd; exact rfl) (by intro d hd hm; cases hd; exact absurd hm (by decide)))
        rw [← hev]
        clear hK hdeps hbase hev
        simp only [execOp, hec, hef, b6]
        go_simp
      refine ⟨?_, ?_⟩
      · intro a w' hB hsz hbase hdeps K hK
        obtain ⟨ev, hev⟩ : ∃ ev, ev = a.eval := ⟨_, rfl⟩
        have hec : ∀ v, ev (.const v) = v := fun v => by rw [hev]; rfl
        have hef : ∀ f, ev (.func f) = .func (.func f) #[] #[] := fun f => by rw [hev]; rfl
        rw [← hev] at hbase hdeps
        have d17 : ev (.tmp 17) = Value.agg #[.int .u64 (setW (notP p) 0 : Int), .int .u64 (setW (notP p) 1 : Int), .int .u64 (setW (notP p) 2 : Int), .int .u64 (setW (notP p) 3 : Int)] := hdeps 17 (of_decide_eq_true (by kernel_rfl))
        rw [if_pos (wanted_of (j := 1) (b := true) (d := 16) rfl (by kernel_rfl) (by rw [← hev]; exact hdeps 16 (of_decide_eq_true (by kernel_rfl))))]
        left
        refine step_enter (w' := w') (f := 27) (args := #[Value.agg #[.int .u64 (setW (notP p) 0 : Int), .int .u64 (setW (notP p) 1 : Int), .int .u64 (setW (notP p) 2 : Int), .int .u64 (setW (notP p) 3 : Int)]]) ?_ ?_
        · rw [← hev]
          clear hK hdeps hbase hev
          simp only [execOp, hec, hef, d17]
          go_simp
        · refine (bnotnot p _).mono ?_
          rintro e W ⟨rfl, hb⟩
          exact ⟨_, rfl, hK _ _ hb (by intro d hd; cases hd; exact rfl) (by intro d hd hm; cases hd; exact absurd hm (by decide))⟩
      refine ⟨?_, ?_⟩
      · intro a w' hB hsz hbase hdeps K hK
        obtain ⟨ev, hev⟩ : ∃ ev, ev = a.eval := ⟨_, rfl⟩
        have hec : ∀ v, ev (.const v) = v := fun v => by rw [hev]; rfl
        have hef : ∀ f, ev (.func f) = .func (.func f) #[] #[] := fun f => by rw [hev]; rfl
        rw [← hev] at hbase hdeps
        have b2 : ev (.tmp 2) = (.pointer (some ⟨w.heap.size, 0, none⟩)) := hbase 2 (by kernel_rfl)
        rw [if_pos (wanted_of (j := 1) (b := true) (d := 16) rfl (by kernel_rfl) (by rw [← hev]; exact hdeps 16 (of_decide_eq_true (by kernel_rfl))))]
        left
        have x2 := H4.out.1.call hB
        have x3 := H4.out.2.1.call hB
        have x6 := H4.out.2.2.1.call hB
        have x7 := H4.out.2.2.2.1.call hB
        have x8 := H4.out.2.2.2.2.1.call hB
        have z2 := x2.lt
        have z3 := x3.lt
        have z6 := x6.lt
        have z7 := x7.lt
        have z8 := x8.lt
        have a0 := x2.cell' (i := 0) rfl
        have a1 := x2.cell' (i := 1) rfl
        have a2 := x2.cell' (i := 2) rfl
        have a3 := x2.cell' (i := 3) rfl
        have b0 := x3.cell' (i := 0) rfl
        have b1 := x3.cell' (i := 1) rfl
        have b2 := x3.cell' (i := 2) rfl
        have b3 := x3.cell' (i := 3) rfl
        have c0 := x6.cell' (i := 0) rfl
        have c1 := x6.cell' (i := 1) rfl
        have c2 := x6.cell' (i := 2) rfl
        have c3 := x6.cell' (i := 3) rfl
        have e0 := x7.cell' (i := 0) rfl
        have e1 := x7.cell' (i := 1) rfl
        have e2 := x7.cell' (i := 2) rfl
        have e3 := x7.cell' (i := 3) rfl
        have f0 := x8.cell' (i := 0) rfl
        have f1 := x8.cell' (i := 1) rfl
        have f2 := x8.cell' (i := 2) rfl
        have f3 := x8.cell' (i := 3) rfl
        clear x2 x3 x6 x7 x8
        refine step_val (v := Value.agg #[.int .u64 (setW p 0 : Int), .int .u64 (setW p 1 : Int), .int .u64 (setW p 2 : Int), .int .u64 (setW p 3 : Int)]) (w' := w') ?_ (hK _ _ (Below.refl _ _) (by intro d hd; cases hd; exact rfl) (by intro d hd hm; cases hd; exact absurd hm (by decide)))
        rw [← hev]
        clear hK hdeps hbase hev
        simp only [execOp, hec, hef, b2]
        go_simp
      refine ⟨?_, ?_⟩
      · intro a w' hB hsz hbase hdeps K hK
        obtain ⟨ev, hev⟩ : ∃ ev, ev = a.eval := ⟨_, rfl⟩
        have hec : ∀ v, ev (.const v) = v := fun v => by rw [hev]; rfl
        have hef : ∀ f, ev (.func f) = .func (.func f) #[] #[] := fun f => by rw [hev]; rfl
        rw [← hev] at hbase hdeps
        have d18 : ev (.tmp 18) = Value.agg #[.int .u64 (setW p 0 : Int), .int .u64 (setW p 1 : Int), .int .u64 (setW p 2 : Int), .int .u64 (setW p 3 : Int)] := hdeps 18 (of_decide_eq_true (by kernel_rfl))
        have d19 : ev (.tmp 19) = Value.agg #[.int .u64 (setW p 0 : Int), .int .u64 (setW p 1 : Int), .int .u64 (setW p 2 : Int), .int .u64 (setW p 3 : Int)] := hdeps 19 (of_decide_eq_true (by kernel_rfl))
        rw [if_pos (wanted_of (j := 1) (b := true) (d := 16) rfl (by kernel_rfl) (by rw [← hev]; exact hdeps 16 (of_decide_eq_true (by kernel_rfl))))]
        left
        have hq := fun W => eqSelf (p) W
        refine step_val (v := .bool true) (w' := w') ?_ (hK _ _ (Below.refl _ _) (by intro d hd; cases hd; exact rfl) (by intro d hd hm; cases hd; exact absurd hm (by decide)))
        rw [← hev]
        clear hK hdeps hbase hev
        simp only [execOp, hec, hef, d18, d19]
        go_simp
      refine ⟨?_, ?_⟩
      · intro a w' hB hsz hbase hdeps K hK
        obtain ⟨ev, hev⟩ : ∃ ev, ev = a.eval := ⟨_, rfl⟩
        have hec : ∀ v, ev (.const v) = v := fun v => by rw [hev]; rfl
        have hef : ∀ f, ev (.func f) = .func (.func f) #[] #[] := fun f => by rw [hev]; rfl
        rw [← hev] at hbase hdeps
        have d16 : ev (.tmp 16) = .bool true := hdeps 16 (of_decide_eq_true (by kernel_rfl))
        have d20 : ev (.tmp 20) = .bool true := hdeps 20 (of_decide_eq_true (by kernel_rfl))
        rw [if_pos (by kernel_rfl)]
        left
        refine step_val (v := .bool true) (w' := w') ?_ (hK _ _ (Below.refl _ _) (by intro d hd; cases hd; exact rfl) (by intro d hd hm; cases hd; exact absurd hm (by decide)))
        rw [← hev]
        clear hK hdeps hbase hev
        simp only [execOp, hec, hef, d16, d20]
        go_simp
      refine ⟨?_, ?_⟩
      · intro a w' hB hsz hbase hdeps K hK
        obtain ⟨ev, hev⟩ : ∃ ev, ev = a.eval := ⟨_, rfl⟩
        have hec : ∀ v, ev (.const v) = v := fun v => by rw [hev]; rfl
        have hef : ∀ f, ev (.func f) = .func (.func f) #[] #[] := fun f => by rw [hev]; rfl
        rw [← hev] at hbase hdeps
        have d21 : ev (.tmp 21) = .bool true := hdeps 21 (of_decide_eq_true (by kernel_rfl))
        rw [if_pos (by kernel_rfl)]
        left
        refine step_val (v := .bool true) (w' := w') ?_ (hK _ _ (Below.refl _ _) (by intro d hd; cases hd; exact rfl) (by intro d hd hm; cases hd; exact absurd hm (by decide)))
        rw [← hev]
        clear hK hdeps hbase hev
        simp only [execOp, hec, hef, d21]
        go_simp
      refine ⟨?_, ?_⟩
      · intro a w' hB hsz hbase hdeps K hK
        obtain ⟨ev, hev⟩ : ∃ ev, ev = a.eval := ⟨_, rfl⟩
        have hec : ∀ v, ev (.const v) = v := fun v => by rw [hev]; rfl
        have hef : ∀ f, ev (.func f) = .func (.func f) #[] #[] := fun f => by rw [hev]; rfl
        rw [← hev] at hbase hdeps
        have b2 : ev (.tmp 2) = (.pointer (some ⟨w.heap.size, 0, none⟩)) := hbase 2 (by kernel_rfl)
        rw [if_pos (wanted_of (j := 7) (b := true) (d := 22) rfl (by kernel_rfl) (by rw [← hev]; exact hdeps 22 (of_decide_eq_true (by kernel_rfl))))]
        left
        have x2 := H4.out.1.call hB
        have x3 := H4.out.2.1.call hB
        have x6 := H4.out.2.2.1.call hB
        have x7 := H4.out.2.2.2.1.call hB
        have x8 := H4.out.2.2.2.2.1.call hB
        have z2 := x2.lt
        have z3 := x3.lt
        have z6 := x6.lt
        have z7 := x7.lt
        have z8 := x8.lt
        have a0 := x2.cell' (i := 0) rfl
        have a1 := x2.cell' (i := 1) rfl
        have a2 := x2.cell' (i := 2) rfl
        have a3 := x2.cell' (i := 3) rfl
        have b0 := x3.cell' (i := 0) rfl
        have b1 := x3.cell' (i := 1) rfl
        have b2 := x3.cell' (i := 2) rfl
        have b3 := x3.cell' (i := 3) rfl
        have c0 := x6.cell' (i := 0) rfl
        have c1 := x6.cell' (i := 1) rfl
        have c2 := x6.cell' (i := 2) rfl
        have c3 := x6.cell' (i := 3) rfl
        have e0 := x7.cell' (i := 0) rfl
        have e1 := x7.cell' (i := 1) rfl
        have e2 := x7.cell' (i := 2) rfl
        have e3 := x7.cell' (i := 3) rfl
        have f0 := x8.cell' (i := 0) rfl
        have f1 := x8.cell' (i := 1) rfl
        have f2 := x8.cell' (i := 2) rfl
        have f3 := x8.cell' (i := 3) rfl
        clear x2 x3 x6 x7 x8
        refine step_val (v := Value.agg #[.int .u64 (setW p 0 : Int), .int .u64 (setW p 1 : Int), .int .u64 (setW p 2 : Int), .int .u64 (setW p 3 : Int)]) (w' := w') ?_ (hK _ _ (Below.refl _ _) (by intro d hd; cases hd; exact rfl) (by intro d hd hm; cases hd; exact absurd hm (by decide)))
        rw [← hev]
        clear hK hdeps hbase hev
        simp only [execOp, hec, hef, b2]
        go_simp
      refine ⟨?_, ?_⟩
      · intro a w' hB hsz hbase hdeps K hK
        obtain ⟨ev, hev⟩ : ∃ ev, ev = a.eval := ⟨_, rfl⟩
        have hec : ∀ v, ev (.const v) = v := fun v => by rw [hev]; rfl
        have hef : ∀ f, ev (.func f) = .func (.func f) #[] #[] := fun f => by rw [hev]; rfl
        rw [← hev] at hbase hdeps
        have b6 : ev (.tmp 6) = (.pointer (some ⟨g, 0, none⟩)) := hbase 6 (by kernel_rfl)
        rw [if_pos (wanted_of (j := 7) (b := true) (d := 22) rfl (by kernel_rfl) (by rw [← hev]; exact hdeps 22 (of_decide_eq_true (by kernel_rfl))))]
        left
        have x2 := H4.out.1.call hB
        have x3 := H4.out.2.1.call hB
        have x6 := H4.out.2.2.1.call hB
        have x7 := H4.out.2.2.2.1.call hB
        have x8 := H4.out.2.2.2.2.1.call hB
        have z2 := x2.lt
        have z3 := x3.lt
        have z6 := x6.lt
        have z7 := x7.lt
        have z8 := x8.lt
        have a0 := x2.cell' (i := 0) rfl
        have a1 := x2.cell' (i := 1) rfl
        have a2 := x2.cell' (i := 2) rfl
        have a3 := x2.cell' (i := 3) rfl
        have b0 := x3.cell' (i := 0) rfl
        have b1 := x3.cell' (i := 1) rfl
        have b2 := x3.cell' (i := 2) rfl
        have b3 := x3.cell' (i := 3) rfl
        have c0 := x6.cell' (i := 0) rfl
        have c1 := x6.cell' (i := 1) rfl
        have c2 := x6.cell' (i := 2) rfl
        have c3 := x6.cell' (i := 3) rfl
        have e0 := x7.cell' (i := 0) rfl
        have e1 := x7.cell' (i := 1) rfl
        have e2 := x7.cell' (i := 2) rfl
        have e3 := x7.cell' (i := 3) rfl
        have f0 := x8.cell' (i := 0) rfl
        have f1 := x8.cell' (i := 1) rfl
        have f2 := x8.cell' (i := 2) rfl
        have f3 := x8.cell' (i := 3) rfl
        clear x2 x3 x6 x7 x8
        refine step_val (v := Value.agg #[.int .u64 (setW (notP p) 0 : Int), .int .u64 (setW (notP p) 1 : Int), .int .u64 (setW (notP p) 2 : Int), .int .u64 (setW (notP p) 3 : Int)]) (w' := w') ?_ (hK _ _ (Below.refl _ _) (by intro d hd; cases hd; exact rfl) (by intro d hd hm; cases hd; exact absurd hm (by decide)))
        rw [← hev]
        clear hK hdeps hbase hev
        simp only [execOp, hec, hef, b6]
        go_simp
      refine ⟨?_, ?_⟩
      · intro a w' hB hsz hbase hdeps K hK
        obtain ⟨ev, hev⟩ : ∃ ev, ev = a.eval := ⟨_, rfl⟩
        have hec : ∀ v, ev (.const v) = v := fun v => by rw [hev]; rfl
        have hef : ∀ f, ev (.func f) = .func (.func f) #[] #[] := fun f => by rw [hev]; rfl
        rw [← hev] at hbase hdeps
        have d23 : ev (.tmp 23) = Value.agg #[.int .u64 (setW p 0 : Int), .int .u64 (setW p 1 : Int), .int .u64 (setW p 2 : Int), .int .u64 (setW p 3 : Int)] := hdeps 23 (of_decide_eq_true (by kernel_rfl))
        have d24 : ev (.tmp 24) = Value.agg #[.int .u64 (setW (notP p) 0 : Int), .int .u64 (setW (notP p) 1 : Int), .int .u64 (setW (notP p) 2 : Int), .int .u64 (setW (notP p) 3 : Int)] := hdeps 24 (of_decide_eq_true (by kernel_rfl))
        rw [if_pos (wanted_of (j := 7) (b := true) (d := 22) rfl (by kernel_rfl) (by rw [← hev]; exact hdeps 22 (of_decide_eq_true (by kernel_rfl))))]
        left
        refine step_val (v := .slice (some ⟨w'.heap.size, 0, none⟩) 2 2) (w' := w'.alloc (.cells #[Value.int .u64 (setW p 0 : Int), .int .u64 (setW p 1 : Int), .int .u64 (setW p 2 : Int), .int .u64 (setW p 3 : Int), Value.int .u64 (setW (notP p) 0 : Int), .int .u64 (setW (notP p) 1 : Int), .int .u64 (setW (notP p) 2 : Int), .int .u64 (setW (notP p) 3 : Int)] 28)) ?_ (hK _ _ (gr_alloc (Below.refl _ _) _) (by intro d hd; cases hd; exact ⟨_, rfl, Blk.new _ _ _⟩) (by intro d hd hm; cases hd; exact absurd hm (by decide)))
        rw [← hev]
        clear hK hdeps hbase hev
        simp only [execOp, hec, hef, d23, d24]
        go_simp
      refine ⟨?_, ?_⟩
      · intro a w' hB hsz hbase hdeps K hK
        obtain ⟨ev, hev⟩ : ∃ ev, ev = a.eval := ⟨_, rfl⟩
        have hec : ∀ v, ev (.const v) = v := fun v => by rw [hev]; rfl
        have hef : ∀ f, ev (.func f) = .func (.func f) #[] #[] := fun f => by rw [hev]; rfl
        rw [← hev] at hbase hdeps
        have d25 := hdeps 25 (of_decide_eq_true (by kernel_rfl))
        obtain ⟨n, en, hn⟩ := d25
        rw [if_pos (wanted_of (j := 7) (b := true) (d := 22) rfl (by kernel_rfl) (by rw [← hev]; exact hdeps 22 (of_decide_eq_true (by kernel_rfl))))]
        left
        refine step_enter (w' := w') (f := 17) (args := #[.slice (some ⟨n, 0, none⟩) 2 2]) ?_ ?_
        · rw [← hev]
          clear hK hdeps hbase hev
          simp only [execOp, hec, hef, en]
          go_simp
        · refine (bcomNot n p _ hn).mono ?_
          rintro e W ⟨rfl, hb⟩
          exact ⟨_, rfl, hK _ _ hb (by intro d hd; cases hd; exact rfl) (by intro d hd hm; cases hd; exact absurd hm (by decide))⟩
      refine ⟨?_, ?_⟩
      · intro a w' hB hsz hbase hdeps K hK
        obtain ⟨ev, hev⟩ : ∃ ev, ev = a.eval := ⟨_, rfl⟩
        have hec : ∀ v, ev (.const v) = v := fun v => by rw [hev]; rfl
        have hef : ∀ f, ev (.func f) = .func (.func f) #[] #[] := fun f => by rw [hev]; rfl
        rw [← hev] at hbase hdeps
        rw [if_pos (wanted_of (j := 7) (b := true) (d := 22) rfl (by kernel_rfl) (by rw [← hev]; exact hdeps 22 (of_decide_eq_true (by kernel_rfl))))]
        left
        refine step_val (v := .agg #[.int .u64 0, .int .u64 0, .int .u64 0, .int .u64 0]) (w' := w') ?_ (hK _ _ (Below.refl _ _) (by intro d hd; cases hd; exact rfl) (by intro d hd hm; cases hd; exact absurd hm (by decide)))
        rw [← hev]
        clear hK hdeps hbase hev
        simp only [execOp, hec, hef]
        go_simp
      refine ⟨?_, ?_⟩
      · intro a w' hB hsz hbase hdeps K hK
        obtain ⟨ev, hev⟩ : ∃ ev, ev = a.eval := ⟨_, rfl⟩
        have hec : ∀ v, ev (.const v) = v := fun v => by rw [hev]; rfl
        have hef : ∀ f, ev (.func f) = .func (.func f) #[] #[] := fun f => by rw [hev]; rfl
        rw [← hev] at hbase hdeps
        have d26 : ev (.tmp 26) = .agg #[.int .u64 0, .int .u64 0, .int .u64 0, .int .u64 0] := hdeps 26 (of_decide_eq_true (by kernel_rfl))
        have d27 : ev (.tmp 27) = .agg #[.int .u64 0, .int .u64 0, .int .u64 0, .int .u64 0] := hdeps 27 (of_decide_eq_true (by kernel_rfl))
        rw [if_pos (wanted_of (j := 7) (b := true) (d := 22) rfl (by kernel_rfl) (by rw [← hev]; exact hdeps 22 (of_decide_eq_true (by kernel_rfl))))]
        left
        have hq := eqNo
        refine step_val (v := .bool true) (w' := w') ?_ (hK _ _ (Below.refl _ _) (by intro d hd; cases hd; exact rfl) (by intro d hd hm; cases hd; exact absurd hm (by decide)))
        rw [← hev]
        clear hK hdeps hbase hev
        simp only [execOp, hec, hef, d26, d27]
        go_simp
      refine ⟨?_, ?_⟩
      · intro a w' hB hsz hbase hdeps K hK
        obtain ⟨ev, hev⟩ : ∃ ev, ev = a.eval := ⟨_, rfl⟩
        have hec : ∀ v, ev (.const v) = v := fun v => by rw [hev]; rfl
        have hef : ∀ f, ev (.func f) = .func (.func f) #[] #[] := fun f => by rw [hev]; rfl
        rw [← hev] at hbase hdeps
        have d22 : ev (.tmp 22) = .bool true := hdeps 22 (of_decide_eq_true (by kernel_rfl))
        have d28 : ev (.tmp 28) = .bool true := hdeps 28 (of_decide_eq_true (by kernel_rfl))
        rw [if_pos (by kernel_rfl)]
        left
        refine step_val (v := .bool true) (w' := w') ?_ (hK _ _ (Below.refl _ _) (by intro d hd; cases hd; exact rfl) (by intro d hd hm; cases hd; exact absurd hm (by decide)))
        rw [← hev]
        clear hK hdeps hbase hev
        simp only [execOp, hec, hef, d22, d28]
        go_simp
      refine ⟨?_, ?_⟩
      · intro a w' hB hsz hbase hdeps K hK
        obtain ⟨ev, hev⟩ : ∃ ev, ev = a.eval := ⟨_, rfl⟩
        have hec : ∀ v, ev (.const v) = v := fun v => by rw [hev]; rfl
        have hef : ∀ f, ev (.func f) = .func (.func f) #[] #[] := fun f => by rw [hev]; rfl
        rw [← hev] at hbase hdeps
        have d29 : ev (.tmp 29) = .bool true := hdeps 29 (of_decide_eq_true (by kernel_rfl))
        rw [if_pos (by kernel_rfl)]
        left
        refine step_val (v := .bool true) (w' := w') ?_ (hK _ _ (Below.refl _ _) (by intro d hd; cases hd; exact rfl) (by intro d hd hm; cases hd; exact absurd hm (by decide)))
        rw [← hev]
        clear hK hdeps hbase hev
        simp only [execOp, hec, hef, d29]
        go_simp
      refine ⟨?_, ?_⟩
      · intro a w' hB hsz hbase hdeps K hK
        obtain ⟨ev, hev⟩ : ∃ ev, ev = a.eval := ⟨_, rfl⟩
        have hec : ∀ v, ev (.const v) = v := fun v => by rw [hev]; rfl
        have hef : ∀ f, ev (.func f) = .func (.func f) #[] #[] := fun f => by rw [hev]; rfl
        rw [← hev] at hbase hdeps
        have b2 : ev (.tmp 2) = (.pointer (some ⟨w.heap.size, 0, none⟩)) := hbase 2 (by kernel_rfl)
        rw [if_pos (wanted_of (j := 15) (b := true) (d := 30) rfl (by kernel_rfl) (by rw [← hev]; exact hdeps 30 (of_decide_eq_true (by kernel_rfl))))]
        left
        have x2 := H4.out.1.call hB
        have x3 := H4.out.2.1.call hB
        have x6 := H4.out.2.2.1.call hB
        have x7 := H4.out.2.2.2.1.call hB
        have x8 := H4.out.2.2.2.2.1.call hB
        have z2 := x2.lt
        have z3 := x3.lt
        have z6 := x6.lt
        have z7 := x7.lt
        have z8 := x8.lt
        have a0 := x2.cell' (i := 0) rfl
        have a1 := x2.cell' (i := 1) rfl
        have a2 := x2.cell' (i := 2) rfl
        have a3 := x2.cell' (i := 3) rfl
        have b0 := x3.cell' (i := 0) rfl
        have b1 := x3.cell' (i := 1) rfl
        have b2 := x3.cell' (i := 2) rfl
        have b3 := x3.cell' (i := 3) rfl
        have c0 := x6.cell' (i := 0) rfl
        have c1 := x6.cell' (i := 1) rfl
        have c2 := x6.cell' (i := 2) rfl
        have c3 := x6.cell' (i := 3) rfl
        have e0 := x7.cell' (i := 0) rfl
        have e1 := x7.cell' (i := 1) rfl
        have e2 := x7.cell' (i := 2) rfl
        have e3 := x7.cell' (i := 3) rfl
        have f0 := x8.cell' (i := 0) rfl
        have f1 := x8.cell' (i := 1) rfl
        have f2 := x8.cell' (i := 2) rfl
        have f3 := x8.cell' (i := 3) rfl
        clear x2 x3 x6 x7 x8
        refine step_val (v := Value.agg #[.int .u64 (setW p 0 : Int), .int .u64 (setW p 1 : Int), .int .u64 (setW p 2 : Int), .int .u64 (setW p 3 : Int)]) (w' := w') ?_ (hK _ _ (Below.refl _ _) (by intro d hd; cases hd; exact rfl) (by intro d hd hm; cases hd; exact absurd hm (by decide)))
        rw [← hev]
        clear hK hdeps hbase hev
        simp only [execOp, hec, hef, b2]
        go_simp
      refine ⟨?_, ?_⟩
      · intro a w' hB hsz hbase hdeps K hK
        obtain ⟨ev, hev⟩ : ∃ ev, ev = a.eval := ⟨_, rfl⟩
        have hec : ∀ v, ev (.const v) = v := fun v => by rw [hev]; rfl
        have hef : ∀ f, ev (.func f) = .func (.func f) #[] #[] := fun f => by rw [hev]; rfl
        rw [← hev] at hbase hdeps
        have b6 : ev (.tmp 6) = (.pointer (some ⟨g, 0, none⟩)) := hbase 6 (by kernel_rfl)
        rw [if_pos (wanted_of (j := 15) (b := true) (d := 30) rfl (by kernel_rfl) (by rw [← hev]; exact hdeps 30 (of_decide_eq_true (by kernel_rfl))))]
        left
        have x2 := H4.out.1.call hB
        have x3 := H4.out.2.1.call hB
        have x6 := H4.out.2.2.1.call hB
        have x7 := H4.out.2.2.2.1.call hB
        have x8 := H4.out.2.2.2.2.1.call hB
        have z2 := x2.lt
        have z3 := x3.lt
        have z6 := x6.lt
        have z7 := x7.lt
        have z8 := x8.lt
        have a0 := x2.cell' (i := 0) rfl
        have a1 := x2.cell' (i := 1) rfl
        have a2 := x2.cell' (i := 2) rfl
        have a3 := x2.cell' (i := 3) rfl
        have b0 := x3.cell' (i := 0) rfl
        have b1 := x3.cell' (i := 1) rfl
        have b2 := x3.cell' (i := 2) rfl
        have b3 := x3.cell' (i := 3) rfl
        have c0 := x6.cell' (i := 0) rfl
        have c1 := x6.cell' (i := 1) rfl
        have c2 := x6.cell' (i := 2) rfl
        have c3 := x6.cell' (i := 3) rfl
        have e0 := x7.cell' (i := 0) rfl
        have e1 := x7.cell' (i := 1) rfl
        have e2 := x7.cell' (i := 2) rfl
        have e3 := x7.cell' (i := 3) rfl
        have f0 := x8.cell' (i := 0) rfl
        have f1 := x8.cell' (i := 1) rfl
        have f2 := x8.cell' (i := 2) rfl
        have f3 := x8.cell' (i := 3) rfl
        clear x2 x3 x6 x7 x8
        refine step_val (v := Value.agg #[.int .u64 (setW (notP p) 0 : Int), .int .u64 (setW (notP p) 1 : Int), .int .u64 (setW (notP p) 2 : Int), .int .u64 (setW (notP p) 3 : Int)]) (w' := w') ?_ (hK _ _ (Below.refl _ _) (by intro d hd; cases hd; exact rfl) (by intro d hd hm; cases hd; exact absurd hm (by decide)))
        rw [← hev]
        clear hK hdeps hbase hev
        simp only [execOp, hec, hef, b6]
        go_simp
      refine ⟨?_, ?_⟩
      · intro a w' hB hsz hbase hdeps K hK
        obtain ⟨ev, hev⟩ : ∃ ev, ev = a.eval := ⟨_, rfl⟩
        have hec : ∀ v, ev (.const v) = v := fun v => by rw [hev]; rfl
        have hef : ∀ f, ev (.func f) = .func (.func f) #[] #[] := fun f => by rw [hev]; rfl
        rw [← hev] at hbase hdeps
        have d31 : ev (.tmp 31) = Value.agg #[.int .u64 (setW p 0 : Int), .int .u64 (setW p 1 : Int), .int .u64 (setW p 2 : Int), .int .u64 (setW p 3 : Int)] := hdeps 31 (of_decide_eq_true (by kernel_rfl))
        have d32 : ev (.tmp 32) = Value.agg #[.int .u64 (setW (notP p) 0 : Int), .int .u64 (setW (notP p) 1 : Int), .int .u64 (setW (notP p) 2 : Int), .int .u64 (setW (notP p) 3 : Int)] := hdeps 32 (of_decide_eq_true (by kernel_rfl))
        rw [if_pos (wanted_of (j := 15) (b := true) (d := 30) rfl (by kernel_rfl) (by rw [← hev]; exact hdeps 30 (of_decide_eq_true (by kernel_rfl))))]
        left
        refine step_val (v := .slice (some ⟨w'.heap.size, 0, none⟩) 2 2) (w' := w'.alloc (.cells #[Value.int .u64 (setW p 0 : Int), .int .u64 (setW p 1 : Int), .int .u64 (setW p 2 : Int), .int .u64 (setW p 3 : Int), Value.int .u64 (setW (notP p) 0 : Int), .int .u64 (setW (notP p) 1 : Int), .int .u64 (setW (notP p) 2 : Int), .int .u64 (setW (notP p) 3 : Int)] 28)) ?_ (hK _ _ (gr_alloc (Below.refl _ _) _) (by intro d hd; cases hd; exact ⟨_, rfl, Blk.new _ _ _⟩) (by intro d hd hm; cases hd; exact absurd hm (by decide)))
        rw [← hev]
        clear hK hdeps hbase hev
        simp only [execOp, hec, hef, d31, d32]
        go_simp
      refine ⟨?_, ?_⟩
      · intro a w' hB hsz hbase hdeps K hK
        obtain ⟨ev, hev⟩ : ∃ ev, ev = a.eval := ⟨_, rfl⟩
        have hec : ∀ v, ev (.const v) = v := fun v => by rw [hev]; rfl
        have hef : ∀ f, ev (.func f) = .func (.func f) #[] #[] := fun f => by rw [hev]; rfl
        rw [← hev] at hbase hdeps
        have d33 := hdeps 33 (of_decide_eq_true (by kernel_rfl))
        obtain ⟨n, en, hn⟩ := d33
        rw [if_pos (wanted_of (j := 15) (b := true) (d := 30) rfl (by kernel_rfl) (by rw [← hev]; exact hdeps 30 (of_decide_eq_true (by kernel_rfl))))]
        left
        refine step_enter (w' := w') (f := 15) (args := #[.slice (some ⟨n, 0, none⟩) 2 2]) ?_ ?_
        · rw [← hev]
          clear hK hdeps hbase hev
          simp only [execOp, hec, hef, en]
          go_simp
        · refine (buniNot n p _ hn).mono ?_
          rintro e W ⟨rfl, hb⟩
          exact ⟨_, rfl, hK _ _ hb (by intro d hd; cases hd; exact rfl) (by intro d hd hm; cases hd; exact absurd hm (by decide))⟩
      refine ⟨?_, ?_⟩
      · intro a w' hB hsz hbase hdeps K hK
        obtain ⟨ev, hev⟩ : ∃ ev, ev = a.eval := ⟨_, rfl⟩
        have hec : ∀ v, ev (.const v) = v := fun v => by rw [hev]; rfl
        have hef : ∀ f, ev (.func f) = .func (.func f) #[] #[] := fun f => by rw [hev]; rfl
        rw [← hev] at hbase hdeps
        have b8 : ev (.tmp 8) = (.pointer (some ⟨n8, 0, none⟩)) := hbase 8 (by kernel_rfl)
        rw [if_pos (wanted_of (j := 15) (b := true) (d := 30) rfl (by kernel_rfl) (by rw [← hev]; exact hdeps 30 (of_decide_eq_true (by kernel_rfl))))]
        left
        have x2 := H4.out.1.call hB
        have x3 := H4.out.2.1.call hB
        have x6 := H4.out.2.2.1.call hB
        have x7 := H4.out.2.2.2.1.call hB
        have x8 := H4.out.2.2.2.2.1.call hB
        have z2 := x2.lt
        have z3 := x3.lt
        have z6 := x6.lt
        have z7 := x7.lt
        have z8 := x8.lt
        have a0 := x2.cell' (i := 0) rfl
        have a1 := x2.cell' (i := 1) rfl
        have a2 := x2.cell' (i := 2) rfl
        have a3 := x2.cell' (i := 3) rfl
        have b0 := x3.cell' (i := 0) rfl
        have b1 := x3.cell' (i := 1) rfl
        have b2 := x3.cell' (i := 2) rfl
        have b3 := x3.cell' (i := 3) rfl
        have c0 := x6.cell' (i := 0) rfl
        have c1 := x6.cell' (i := 1) rfl
        have c2 := x6.cell' (i := 2) rfl
        have c3 := x6.cell' (i := 3) rfl
        have e0 := x7.cell' (i := 0) rfl
        have e1 := x7.cell' (i := 1) rfl
        have e2 := x7.cell' (i := 2) rfl
        have e3 := x7.cell' (i := 3) rfl
        have f0 := x8.cell' (i := 0) rfl
        have f1 := x8.cell' (i := 1) rfl
        have f2 := x8.cell' (i := 2) rfl
        have f3 := x8.cell' (i := 3) rfl
        clear x2 x3 x6 x7 x8
        refine step_val (v := Value.agg #[.int .u64 (setW fullP 0 : Int), .int .u64 (setW fullP 1 : Int), .int .u64 (setW fullP 2 : Int), .int .u64 (setW fullP 3 : Int)]) (w' := w') ?_ (hK _ _ (Below.refl _ _) (by intro d hd; cases hd; exact rfl) (by intro d hd hm; cases hd; exact absurd hm (by decide)))
        rw [← hev]
        clear hK hdeps hbase hev
        simp only [execOp, hec, hef, b8]
        go_simp
      refine ⟨?_, ?_⟩
      · intro a w' hB hsz hbase hdeps K hK
        obtain ⟨ev, hev⟩ : ∃ ev, ev = a.eval := ⟨_, rfl⟩
        have hec : ∀ v, ev (.const v) = v := fun v => by rw [hev]; rfl
        have hef : ∀ f, ev (.func f) = .func (.func f) #[] #[] := fun f => by rw [hev]; rfl
        rw [← hev] at hbase hdeps
        have d34 : ev (.tmp 34) = Value.agg #[.int .u64 (setW fullP 0 : Int), .int .u64 (setW fullP 1 : Int), .int .u64 (setW fullP 2 : Int), .int .u64 (setW fullP 3 : Int)] := hdeps 34 (of_decide_eq_true (by kernel_rfl))
        have d35 : ev (.tmp 35) = Value.agg #[.int .u64 (setW fullP 0 : Int), .int .u64 (setW fullP 1 : Int), .int .u64 (setW fullP 2 : Int), .int .u64 (setW fullP 3 : Int)] := hdeps 35 (of_decide_eq_true (by kernel_rfl))
        rw [if_pos (wanted_of (j := 15) (b := true) (d := 30) rfl (by kernel_rfl) (by rw [← hev]; exact hdeps 30 (of_decide_eq_true (by kernel_rfl))))]
        left
        have hq := fun W => eqSelf (fullP) W
        refine step_val (v := .bool true) (w' := w') ?_ (hK _ _ (Below.refl _ _) (by intro d hd; cases hd; exact rfl) (by intro d hd hm; cases hd; exact absurd hm (by decide)))
        rw [← hev]
        clear hK hdeps hbase hev
        simp only [execOp, hec, hef, d34, d35]
        go_simp
      refine ⟨?_, ?_⟩
      · intro a w' hB hsz hbase hdeps K hK
        obtain ⟨ev, hev⟩ : ∃ ev, ev = a.eval := ⟨_, rfl⟩
        have hec : ∀ v, ev (.const v) = v := fun v => by rw [hev]; rfl
        have hef : ∀ f, ev (.func f) = .func (.func f) #[] #[] := fun f => by rw [hev]; rfl
        rw [← hev] at hbase hdeps
        have d30 : ev (.tmp 30) = .bool true := hdeps 30 (of_decide_eq_true (by kernel_rfl))
        have d36 : ev (.tmp 36) = .bool true := hdeps 36 (of_decide_eq_true (by kernel_rfl))
        rw [if_pos (by kernel_rfl)]
        left
        refine step_val (v := .bool true) (w' := w') ?_ (hK _ _ (Below.refl _ _) (by intro d hd; cases hd; exact rfl) (by intro d hd hm; cases hd; exact absurd hm (by decide)))
        rw [← hev]
        clear hK hdeps hbase hev
        simp only [execOp, hec, hef, d30, d36]
        go_simp
      refine ⟨?_, ?_⟩
      · intro a w' hB hsz hbase hdeps K hK
        obtain ⟨ev, hev⟩ : ∃ ev, ev = a.eval := ⟨_, rfl⟩
        have hec : ∀ v, ev (.const v) = v := fun v => by rw [hev]; rfl
        have hef : ∀ f, ev (.func f) = .func (.func f) #[] #[] := fun f => by rw [hev]; rfl
        rw [← hev] at hbase hdeps
        have d37 : ev (.tmp 37) = .bool true := hdeps 37 (of_decide_eq_true (by kernel_rfl))
        rw [if_pos (by kernel_rfl)]
        left
        refine step_val (v := .bool true) (w' := w') ?_ (hK _ _ (Below.refl _ _) (by intro d hd; cases hd; exact rfl) (by intro d hd hm; cases hd; exact absurd hm (by decide)))
        rw [← hev]
        clear hK hdeps hbase hev
        simp only [execOp, hec, hef, d37]
        go_simp
      refine ⟨?_, ?_⟩
      · intro a w' hB hsz hbase hdeps K hK
        obtain ⟨ev, hev⟩ : ∃ ev, ev = a.eval := ⟨_, rfl⟩
        have hec : ∀ v, ev (.const v) = v := fun v => by rw [hev]; rfl
        have hef : ∀ f, ev (.func f) = .func (.func f) #[] #[] := fun f => by rw [hev]; rfl
        rw [← hev] at hbase hdeps
        have b2 : ev (.tmp 2) = (.pointer (some ⟨w.heap.size, 0, none⟩)) := hbase 2 (by kernel_rfl)
        rw [if_pos (wanted_of (j := 23) (b := true) (d := 38) rfl (by kernel_rfl) (by rw [← hev]; exact hdeps 38 (of_decide_eq_true (by kernel_rfl))))]
        left
        have x2 := H4.out.1.call hB
        have x3 := H4.out.2.1.call hB
        have x6 := H4.out.2.2.1.call hB
        have x7 := H4.out.2.2.2.1.call hB
        have x8 := H4.out.2.2.2.2.1.call hB
        have z2 := x2.lt
        have z3 := x3.lt
        have z6 := x6.lt
        have z7 := x7.lt
        have z8 := x8.lt
        have a0 := x2.cell' (i := 0) rfl
        have a1 := x2.cell' (i := 1) rfl
        have a2 := x2.cell' (i := 2) rfl
        have a3 := x2.cell' (i := 3) rfl
        have b0 := x3.cell' (i := 0) rfl
        have b1 := x3.cell' (i := 1) rfl
        have b2 := x3.cell' (i := 2) rfl
        have b3 := x3.cell' (i := 3) rfl
        have c0 := x6.cell' (i := 0) rfl
        have c1 := x6.cell' (i := 1) rfl
        have c2 := x6.cell' (i := 2) rfl
        have c3 := x6.cell' (i := 3) rfl
        have e0 := x7.cell' (i := 0) rfl
        have e1 := x7.cell' (i := 1) rfl
        have e2 := x7.cell' (i := 2) rfl
        have e3 := x7.cell' (i := 3) rfl
        have f0 := x8.cell' (i := 0) rfl
        have f1 := x8.cell' (i := 1) rfl
        have f2 := x8.cell' (i := 2) rfl
        have f3 := x8.cell' (i := 3) rfl
        clear x2 x3 x6 x7 x8
        refine step_val (v := Value.agg #[.int .u64 (setW p 0 : Int), .int .u64 (setW p 1 : Int), .int .u64 (setW p 2 : Int), .int .u64 (setW p 3 : Int)]) (w' := w') ?_ (hK _ _ (Below.refl _ _) (by intro d hd; cases hd; exact rfl) (by intro d hd hm; cases hd; exact absurd hm (by decide)))
        rw [← hev]
        clear hK hdeps hbase hev
        simp only [execOp, hec, hef, b2]
        go_simp
      refine ⟨?_, ?_⟩
      · intro a w' hB hsz hbase hdeps K hK
        obtain ⟨ev, hev⟩ : ∃ ev, ev = a.eval := ⟨_, rfl⟩
        have hec : ∀ v, ev (.const v) = v := fun v => by rw [hev]; rfl
        have hef : ∀ f, ev (.func f) = .func (.func f) #[] #[] := fun f => by rw [hev]; rfl
        rw [← hev] at hbase hdeps
        have b3 : ev (.tmp 3) = (.pointer (some ⟨w.heap.size + 1, 0, none⟩)) := hbase 3 (by kernel_rfl)
        rw [if_pos (wanted_of (j := 23) (b := true) (d := 38) rfl (by kernel_rfl) (by rw [← hev]; exact hdeps 38 (of_decide_eq_true (by kernel_rfl))))]
        left
        have x2 := H4.out.1.call hB
        have x3 := H4.out.2.1.call hB
        have x6 := H4.out.2.2.1.call hB
        have x7 := H4.out.2.2.2.1.call hB
        have x8 := H4.out.2.2.2.2.1.call hB
        have z2 := x2.lt
        have z3 := x3.lt
        have z6 := x6.lt
        have z7 := x7.lt
        have z8 := x8.lt
        have a0 := x2.cell' (i := 0) rfl
        have a1 := x2.cell' (i := 1) rfl
        have a2 := x2.cell' (i := 2) rfl
        have a3 := x2.cell' (i := 3) rfl
        have b0 := x3.cell' (i := 0) rfl
        have b1 := x3.cell' (i := 1) rfl
        have b2 := x3.cell' (i := 2) rfl
        have b3 := x3.cell' (i := 3) rfl
        have c0 := x6.cell' (i := 0) rfl
        have c1 := x6.cell' (i := 1) rfl
        have c2 := x6.cell' (i := 2) rfl
        have c3 := x6.cell' (i := 3) rfl
        have e0 := x7.cell' (i := 0) rfl
        have e1 := x7.cell' (i := 1) rfl
        have e2 := x7.cell' (i := 2) rfl
        have e3 := x7.cell' (i := 3) rfl
        have f0 := x8.cell' (i := 0) rfl
        have f1 := x8.cell' (i := 1) rfl
        have f2 := x8.cell' (i := 2) rfl
        have f3 := x8.cell' (i := 3) rfl
        clear x2 x3 x6 x7 x8
        refine step_val (v := Value.agg #[.int .u64 (setW q 0 : Int), .int .u64 (setW q 1 : Int), .int .u64 (setW q 2 : Int), .int .u64 (setW q 3 : Int)]) (w' := w') ?_ (hK _ _ (Below.refl _ _) (by intro d hd; cases hd; exact rfl) (by intro d hd hm; cases hd; exact absurd hm (by decide)))
        rw [← hev]
        clear hK hdeps hbase hev
        simp only [execOp, hec, hef, b3]
        go_simp
      refine ⟨?_, ?_⟩
      · intro a w' hB hsz hbase hdeps K hK
        obtain ⟨ev, hev⟩ : ∃ ev, ev = a.eval := ⟨_, rfl⟩
        have hec : ∀ v, ev (.const v) = v := fun v => by rw [hev]; rfl
        have hef : ∀ f, ev (.func f) = .func (.func f) #[] #[] := fun f => by rw [hev]; rfl
        rw [← hev] at hbase hdeps
        have d39 : ev (.tmp 39) = Value.agg #[.int .u64 (setW p 0 : Int), .int .u64 (setW p 1 : Int), .int .u64 (setW p 2 : Int), .int .u64 (setW p 3 : Int)] := hdeps 39 (of_decide_eq_true (by kernel_rfl))
        have d40 : ev (.tmp 40) = Value.agg #[.int .u64 (setW q 0 : Int), .int .u64 (setW q 1 : Int), .int .u64 (setW q 2 : Int), .int .u64 (setW q 3 : Int)] := hdeps 40 (of_decide_eq_true (by kernel_rfl))
        rw [if_pos (wanted_of (j := 23) (b := true) (d := 38) rfl (by kernel_rfl) (by rw [← hev]; exact hdeps 38 (of_decide_eq_true (by kernel_rfl))))]
        left
        refine step_val (v := .slice (some ⟨w'.heap.size, 0, none⟩) 2 2) (w' := w'.alloc (.cells #[Value.int .u64 (setW p 0 : Int), .int .u64 (setW p 1 : Int), .int .u64 (setW p 2 : Int), .int .u64 (setW p 3 : Int), Value.int .u64 (setW q 0 : Int), .int .u64 (setW q 1 : Int), .int .u64 (setW q 2 : Int), .int .u64 (setW q 3 : Int)] 28)) ?_ (hK _ _ (gr_alloc (Below.refl _ _) _) (by intro d hd; cases hd; exact ⟨_, rfl, Blk.new _ _ _⟩) (by intro d hd hm; cases hd; exact absurd hm (by decide)))
        rw [← hev]
        clear hK hdeps hbase hev
        simp only [execOp, hec, hef, d39, d40]
        go_simp
      refine ⟨?_, ?_⟩
      · intro a w' hB hsz hbase hdeps K hK
        obtain ⟨ev, hev⟩ : ∃ ev, ev = a.eval := ⟨_, rfl⟩
        have hec : ∀ v, ev (.const v) = v := fun v => by rw [hev]; rfl
        have hef : ∀ f, ev (.func f) = .func (.func f) #[] #[] := fun f => by rw [hev]; rfl
        rw [← hev] at hbase hdeps
        have d41 := hdeps 41 (of_decide_eq_true (by kernel_rfl))
        obtain ⟨n, en, hn⟩ := d41
        rw [if_pos (wanted_of (j := 23) (b := true) (d := 38) rfl (by kernel_rfl) (by rw [← hev]; exact hdeps 38 (of_decide_eq_true (by kernel_rfl))))]
        left
        refine step_enter (w' := w') (f := 15) (args := #[.slice (some ⟨n, 0, none⟩) 2 2]) ?_ ?_
        · rw [← hev]
          clear hK hdeps hbase hev
          simp only [execOp, hec, hef, en]
          go_simp
        · refine (bunion2 n 2 p q _ _ hn).mono ?_
          rintro e W ⟨rfl, hb⟩
          exact ⟨_, rfl, hK _ _ hb (by intro d hd; cases hd; exact rfl) (by intro d hd hm; cases hd; exact absurd hm (by decide))⟩
      refine ⟨?_, ?_⟩
      · intro a w' hB hsz hbase hdeps K hK
        obtain ⟨ev, hev⟩ : ∃ ev, ev = a.eval := ⟨_, rfl⟩
        have hec : ∀ v, ev (.const v) = v := fun v => by rw [hev]; rfl
        have hef : ∀ f, ev (.func f) = .func (.func f) #[] #[] := fun f => by rw [hev]; rfl
        rw [← hev] at hbase hdeps
        have d42 : ev (.tmp 42) = Value.agg #[.int .u64 (setW (orP p q) 0 : Int), .int .u64 (setW (orP p q) 1 : Int), .int .u64 (setW (orP p q) 2 : Int), .int .u64 (setW (orP p q) 3 : Int)] := hdeps 42 (of_decide_eq_true (by kernel_rfl))
        rw [if_pos (wanted_of (j := 23) (b := true) (d := 38) rfl (by kernel_rfl) (by rw [← hev]; exact hdeps 38 (of_decide_eq_true (by kernel_rfl))))]
        left
        refine step_enter (w' := w') (f := 27) (args := #[Value.agg #[.int .u64 (setW (orP p q) 0 : Int), .int .u64 (setW (orP p q) 1 : Int), .int .u64 (setW (orP p q) 2 : Int), .int .u64 (setW (orP p q) 3 : Int)]]) ?_ ?_
        · rw [← hev]
          clear hK hdeps hbase hev
          simp only [execOp, hec, hef, d42]
          go_simp
        · refine (bnot (orP p q) _).mono ?_
          rintro e W ⟨rfl, hb⟩
          exact ⟨_, rfl, hK _ _ hb (by intro d hd; cases hd; exact rfl) (by intro d hd hm; cases hd; exact absurd hm (by decide))⟩
      refine ⟨?_, ?_⟩
      · intro a w' hB hsz hbase hdeps K hK
        obtain ⟨ev, hev⟩ : ∃ ev, ev = a.eval := ⟨_, rfl⟩
        have hec : ∀ v, ev (.const v) = v := fun v => by rw [hev]; rfl
        have hef : ∀ f, ev (.func f) = .func (.func f) #[] #[] := fun f => by rw [hev]; rfl
        rw [← hev] at hbase hdeps
        have b6 : ev (.tmp 6) = (.pointer (some ⟨g, 0, none⟩)) := hbase 6 (by kernel_rfl)
        rw [if_pos (wanted_of (j := 23) (b := true) (d := 38) rfl (by kernel_rfl) (by rw [← hev]; exact hdeps 38 (of_decide_eq_true (by kernel_rfl))))]
        left
        have x2 := H4.out.1.call hB
        have x3 := H4.out.2.1.call hB
        have x6 := H4.out.2.2.1.call hB
        have x7 := H4.out.2.2.2.1.call hB
        have x8 := H4.out.2.2.2.2.1.call hB
        have z2 := x2.lt
        have z3 := x3.lt
        have z6 := x6.lt
        have z7 := x7.lt
        have z8 := x8.lt
        have a0 := x2.cell' (i := 0) rfl
        have a1 := x2.cell' (i := 1) rfl
        have a2 := x2.cell' (i := 2) rfl
        have a3 := x2.cell' (i := 3) rfl
        have b0 := x3.cell' (i := 0) rfl
        have b1 := x3.cell' (i := 1) rfl
        have b2 := x3.cell' (i := 2) rfl
        have b3 := x3.cell' (i := 3) rfl
        have c0 := x6.cell' (i := 0) rfl
        have c1 := x6.cell' (i := 1) rfl
        have c2 := x6.cell' (i := 2) rfl
        have c3 := x6.cell' (i := 3) rfl
        have e0 := x7.cell' (i := 0) rfl
        have e1 := x7.cell' (i := 1) rfl
        have e2 := x7.cell' (i := 2) rfl
        have e3 := x7.cell' (i := 3) rfl
        have f0 := x8.cell' (i := 0) rfl
        have f1 := x8.cell' (i := 1) rfl
        have f2 := x8.cell' (i := 2) rfl
        have f3 := x8.cell' (i := 3) rfl
        clear x2 x3 x6 x7 x8
        refine step_val (v := Value.agg #[.int .u64 (setW (notP p) 0 : Int), .int .u64 (setW (notP p) 1 : Int), .int .u64 (setW (notP p) 2 : Int), .int .u64 (setW (notP p) 3 : Int)]) (w' := w') ?_ (hK _ _ (Below.refl _ _) (by intro d hd; cases hd; exact rfl) (by intro d hd hm; cases hd; exact absurd hm (by decide)))
        rw [← hev]
        clear hK hdeps hbase hev
        simp only [execOp, hec, hef, b6]
        go_simp
      refine ⟨?_, ?_⟩
      · intro a w' hB hsz hbase hdeps K hK
        obtain ⟨ev, hev⟩ : ∃ ev, ev = a.eval := ⟨_, rfl⟩
        have hec : ∀ v, ev (.const v) = v := fun v => by rw [hev]; rfl
        have hef : ∀ f, ev (.func f) = .func (.func f) #[] #[] := fun f => by rw [hev]; rfl
        rw [← hev] at hbase hdeps
        have b7 : ev (.tmp 7) = (.pointer (some ⟨h, 0, none⟩)) := hbase 7 (by kernel_rfl)
        rw [if_pos (wanted_of (j := 23) (b := true) (d := 38) rfl (by kernel_rfl) (by rw [← hev]; exact hdeps 38 (of_decide_eq_true (by kernel_rfl))))]
        left
        have x2 := H4.out.1.call hB
        have x3 := H4.out.2.1.call hB
        have x6 := H4.out.2.2.1.call hB
        have x7 := H4.out.2.2.2.1.call hB
        have x8 := H4.out.2.2.2.2.1.call hB
        have z2 := x2.lt
        have z3 := x3.lt
        have z6 := x6.lt
        have z7 := x7.lt
        have z8 := x8.lt
        have a0 := x2.cell' (i := 0) rfl
        have a1 := x2.cell' (i := 1) rfl
        have a2 := x2.cell' (i := 2) rfl
        have a3 := x2.cell' (i := 3) rfl
        have b0 := x3.cell' (i := 0) rfl
        have b1 := x3.cell' (i := 1) rfl
        have b2 := x3.cell' (i := 2) rfl
        have b3 := x3.cell' (i := 3) rfl
        have c0 := x6.cell' (i := 0) rfl
        have c1 := x6.cell' (i := 1) rfl
        have c2 := x6.cell' (i := 2) rfl
        have c3 := x6.cell' (i := 3) rfl
        have e0 := x7.cell' (i := 0) rfl
        have e1 := x7.cell' (i := 1) rfl
        have e2 := x7.cell' (i := 2) rfl
        have e3 := x7.cell' (i := 3) rfl
        have f0 := x8.cell' (i := 0) rfl
        have f1 := x8.cell' (i := 1) rfl
        have f2 := x8.cell' (i := 2) rfl
        have f3 := x8.cell' (i := 3) rfl
        clear x2 x3 x6 x7 x8
        refine step_val (v := Value.agg #[.int .u64 (setW (notP q) 0 : Int), .int .u64 (setW (notP q) 1 : Int), .int .u64 (setW (notP q) 2 : Int), .int .u64 (setW (notP q) 3 : Int)]) (w' := w') ?_ (hK _ _ (Below.refl _ _) (by intro d hd; cases hd; exact rfl) (by intro d hd hm; cases hd; exact absurd hm (by decide)))
        rw [← hev]
        clear hK hdeps hbase hev
        simp only [execOp, hec, hef, b7]
        go_simp
      refine ⟨?_, ?_⟩
      · intro a w' hB hsz hbase hdeps K hK
        obtain ⟨ev, hev⟩ : ∃ ev, ev = a.eval := ⟨_, rfl⟩
        have hec : ∀ v, ev (.const v) = v := fun v => by rw [hev]; rfl
        have hef : ∀ f, ev (.func f) = .func (.func f) #[] #[] := fun f => by rw [hev]; rfl
        rw [← hev] at hbase hdeps
        have d44 : ev (.tmp 44) = Value.agg #[.int .u64 (setW (notP p) 0 : Int), .int .u64 (setW (notP p) 1 : Int), .int .u64 (setW (notP p) 2 : Int), .int .u64 (setW (notP p) 3 : Int)] := hdeps 44 (of_decide_eq_true (by kernel_rfl))
        have d45 : ev (.tmp 45) = Value.agg #[.int .u64 (setW (notP q) 0 : Int), .int .u64 (setW (notP q) 1 : Int), .int .u64 (setW (notP q) 2 : Int), .int .u64 (setW (notP q) 3 : Int)] := hdeps 45 (of_decide_eq_true (by kernel_rfl))
        rw [if_pos (wanted_of (j := 23) (b := true) (d := 38) rfl (by kernel_rfl) (by rw [← hev]; exact hdeps 38 (of_decide_eq_true (by kernel_rfl))))]
        left
        refine step_val (v := .slice (some ⟨w'.heap.size, 0, none⟩) 2 2) (w' := w'.alloc (.cells #[Value.int .u64 (setW (notP p) 0 : Int), .int .u64 (setW (notP p) 1 : Int), .int .u64 (setW (notP p) 2 : Int), .int .u64 (setW (notP p) 3 : Int), Value.int .u64 (setW (notP q) 0 : Int), .int .u64 (setW (notP q) 1 : Int), .int .u64 (setW (notP q) 2 : Int), .int .u64 (setW (notP q) 3 : Int)] 28)) ?_ (hK _ _ (gr_alloc (Below.refl _ _) _) (by intro d hd; cases hd; exact ⟨_, rfl, Blk.new _ _ _⟩) (by intro d hd hm; cases hd; exact absurd hm (by decide)))
        rw [← hev]
        clear hK hdeps hbase hev
        simp only [execOp, hec, hef, d44, d45]
        go_simp
      refine ⟨?_, ?_⟩
      · intro a w' hB hsz hbase hdeps K hK
        obtain ⟨ev, hev⟩ : ∃ ev, ev = a.eval := ⟨_, rfl⟩
        have hec : ∀ v, ev (.const v) = v := fun v => by rw [hev]; rfl
        have hef : ∀ f, ev (.func f) = .func (.func f) #[] #[] := fun f => by rw [hev]; rfl
        rw [← hev] at hbase hdeps
        have d46 := hdeps 46 (of_decide_eq_true (by kernel_rfl))
        obtain ⟨n, en, hn⟩ := d46
        rw [if_pos (wanted_of (j := 23) (b := true) (d := 38) rfl (by kernel_rfl) (by rw [← hev]; exact hdeps 38 (of_decide_eq_true (by kernel_rfl))))]
        left
        refine step_enter (w' := w') (f := 17) (args := #[.slice (some ⟨n, 0, none⟩) 2 2]) ?_ ?_
        · rw [← hev]
          clear hK hdeps hbase hev
          simp only [execOp, hec, hef, en]
          go_simp
        · refine (bcomNots n p q _ hn).mono ?_
          rintro e W ⟨rfl, hb⟩
          exact ⟨_, rfl, hK _ _ hb (by intro d hd; cases hd; exact rfl) (by intro d hd hm; cases hd; exact absurd hm (by decide))⟩
      refine ⟨?_, ?_⟩
      · intro a w' hB hsz hbase hdeps K hK
        obtain ⟨ev, hev⟩ : ∃ ev, ev = a.eval := ⟨_, rfl⟩
        have hec : ∀ v, ev (.const v) = v := fun v => by rw [hev]; rfl
        have hef : ∀ f, ev (.func f) = .func (.func f) #[] #[] := fun f => by rw [hev]; rfl
        rw [← hev] at hbase hdeps
        have d43 : ev (.tmp 43) = Value.agg #[.int .u64 (setW (notP (orP p q)) 0 : Int), .int .u64 (setW (notP (orP p q)) 1 : Int), .int .u64 (setW (notP (orP p q)) 2 : Int), .int .u64 (setW (notP (orP p q)) 3 : Int)] := hdeps 43 (of_decide_eq_true (by kernel_rfl))
        have d47 : ev (.tmp 47) = Value.agg #[.int .u64 (setW (notP (orP p q)) 0 : Int), .int .u64 (setW (notP (orP p q)) 1 : Int), .int .u64 (setW (notP (orP p q)) 2 : Int), .int .u64 (setW (notP (orP p q)) 3 : Int)] := hdeps 47 (of_decide_eq_true (by kernel_rfl))
        rw [if_pos (wanted_of (j := 23) (b := true) (d := 38) rfl (by kernel_rfl) (by rw [← hev]; exact hdeps 38 (of_decide_eq_true (by kernel_rfl))))]
        left
        have hq := fun W => eqSelf (notP (orP p q)) W
        refine step_val (v := .bool true) (w' := w') ?_ (hK _ _ (Below.refl _ _) (by intro d hd; cases hd; exact rfl) (by intro d hd hm; cases hd; exact absurd hm (by decide)))
        rw [← hev]
        clear hK hdeps hbase hev
        simp only [execOp, hec, hef, d43, d47]
        go_simp
      refine ⟨?_, ?_⟩
      · intro a w' hB hsz hbase hdeps K hK
        obtain ⟨ev, hev⟩ : ∃ ev, ev = a.eval := ⟨_, rfl⟩
        have hec : ∀ v, ev (.const v) = v := fun v => by rw [hev]; rfl
        have hef : ∀ f, ev (.func f) = .func (.func f) #[] #[] := fun f => by rw [hev]; rfl
        rw [← hev] at hbase hdeps
        have d38 : ev (.tmp 38) = .bool true := hdeps 38 (of_decide_eq_true (by kernel_rfl))
        have d48 : ev (.tmp 48) = .bool true := hdeps 48 (of_decide_eq_true (by kernel_rfl))
        rw [if_pos (by kernel_rfl)]
        left
        refine step_val (v := .bool true) (w' := w') ?_ (hK _ _ (Below.refl _ _) (by intro d hd; cases hd; exact rfl) (by intro d hd hm; cases hd; exact absurd hm (by decide)))
        rw [← hev]
        clear hK hdeps hbase hev
        simp only [execOp, hec, hef, d38, d48]
        go_simp
      refine ⟨?_, ?_⟩
      · intro a w' hB hsz hbase hdeps K hK
        obtain ⟨ev, hev⟩ : ∃ ev, ev = a.eval := ⟨_, rfl⟩
        have hec : ∀ v, ev (.const v) = v := fun v => by rw [hev]; rfl
        have hef : ∀ f, ev (.func f) = .func (.func f) #[] #[] := fun f => by rw [hev]; rfl
        rw [← hev] at hbase hdeps
        have d49 : ev (.tmp 49) = .bool true := hdeps 49 (of_decide_eq_true (by kernel_rfl))
        rw [if_pos (by kernel_rfl)]
        left
        refine step_val (v := .bool true) (w' := w') ?_ (hK _ _ (Below.refl _ _) (by intro d hd; cases hd; exact rfl) (by intro d hd hm; cases hd; exact absurd hm (by decide)))
        rw [← hev]
        clear hK hdeps hbase hev
        simp only [execOp, hec, hef, d49]
        go_simp
      refine ⟨?_, ?_⟩
      · intro a w' hB hsz hbase hdeps K hK
        obtain ⟨ev, hev⟩ : ∃ ev, ev = a.eval := ⟨_, rfl⟩
        have hec : ∀ v, ev (.const v) = v := fun v => by rw [hev]; rfl
        have hef : ∀ f, ev (.func f) = .func (.func f) #[] #[] := fun f => by rw [hev]; rfl
        rw [← hev] at hbase hdeps
        have b2 : ev (.tmp 2) = (.pointer (some ⟨w.heap.size, 0, none⟩)) := hbase 2 (by kernel_rfl)
        rw [if_pos (wanted_of (j := 35) (b := true) (d := 50) rfl (by kernel_rfl) (by rw [← hev]; exact hdeps 50 (of_decide_eq_true (by kernel_rfl))))]
        left
        have x2 := H4.out.1.call hB
        have x3 := H4.out.2.1.call hB
        have x6 := H4.out.2.2.1.call hB
        have x7 := H4.out.2.2.2.1.call hB
        have x8 := H4.out.2.2.2.2.1.call hB
        have z2 := x2.lt
        have z3 := x3.lt
        have z6 := x6.lt
        have z7 := x7.lt
        have z8 := x8.lt
        have a0 := x2.cell' (i := 0) rfl
        have a1 := x2.cell' (i := 1) rfl
        have a2 := x2.cell' (i := 2) rfl
        have a3 := x2.cell' (i := 3) rfl
        have b0 := x3.cell' (i := 0) rfl
        have b1 := x3.cell' (i := 1) rfl
        have b2 := x3.cell' (i := 2) rfl
        have b3 := x3.cell' (i := 3) rfl
        have c0 := x6.cell' (i := 0) rfl
        have c1 := x6.cell' (i := 1) rfl
        have c2 := x6.cell' (i := 2) rfl
        have c3 := x6.cell' (i := 3) rfl
        have e0 := x7.cell' (i := 0) rfl
        have e1 := x7.cell' (i := 1) rfl
        have e2 := x7.cell' (i := 2) rfl
        have e3 := x7.cell' (i := 3) rfl
        have f0 := x8.cell' (i := 0) rfl
        have f1 := x8.cell' (i := 1) rfl
        have f2 := x8.cell' (i := 2) rfl
        have f3 := x8.cell' (i := 3) rfl
        clear x2 x3 x6 x7 x8
        refine step_val (v := Value.agg #[.int .u64 (setW p 0 : Int), .int .u64 (setW p 1 : Int), .int .u64 (setW p 2 : Int), .int .u64 (setW p 3 : Int)]) (w' := w') ?_ (hK _ _ (Below.refl _ _) (by intro d hd; cases hd; exact rfl) (by intro d hd hm; cases hd; exact absurd hm (by decide)))
        rw [← hev]
        clear hK hdeps hbase hev
        simp only [execOp, hec, hef, b2]
        go_simp
      refine ⟨?_, ?_⟩
      · intro a w' hB hsz hbase hdeps K hK
        obtain ⟨ev, hev⟩ : ∃ ev, ev = a.eval := ⟨_, rfl⟩
        have hec : ∀ v, ev (.const v) = v := fun v => by rw [hev]; rfl
        have hef : ∀ f, ev (.func f) = .func (.func f) #[] #[] := fun f => by rw [hev]; rfl
        rw [← hev] at hbase hdeps
        have d51 : ev (.tmp 51) = Value.agg #[.int .u64 (setW p 0 : Int), .int .u64 (setW p 1 : Int), .int .u64 (setW p 2 : Int), .int .u64 (setW p 3 : Int)] := hdeps 51 (of_decide_eq_true (by kernel_rfl))
        rw [if_pos (wanted_of (j := 35) (b := true) (d := 50) rfl (by kernel_rfl) (by rw [← hev]; exact hdeps 50 (of_decide_eq_true (by kernel_rfl))))]
        left
        refine step_enter (w' := w') (f := 31) (args := #[Value.agg #[.int .u64 (setW p 0 : Int), .int .u64 (setW p 1 : Int), .int .u64 (setW p 2 : Int), .int .u64 (setW p 3 : Int)]]) ?_ ?_
        · rw [← hev]
          clear hK hdeps hbase hev
          simp only [execOp, hec, hef, d51]
          go_simp
        · refine (bcount p _).mono ?_
          rintro e W ⟨rfl, hb⟩
          exact ⟨_, rfl, hK _ _ hb (by intro d hd; cases hd; exact rfl) (by intro d hd hm; cases hd; exact absurd hm (by decide))⟩
      refine ⟨?_, ?_⟩
      · intro a w' hB hsz hbase hdeps K hK
        obtain ⟨ev, hev⟩ : ∃ ev, ev = a.eval := ⟨_, rfl⟩
        have hec : ∀ v, ev (.const v) = v := fun v => by rw [hev]; rfl
        have hef : ∀ f, ev (.func f) = .func (.func f) #[] #[] := fun f => by rw [hev]; rfl
        rw [← hev] at hbase hdeps
        have b6 : ev (.tmp 6) = (.pointer (some ⟨g, 0, none⟩)) := hbase 6 (by kernel_rfl)
        rw [if_pos (wanted_of (j := 35) (b := true) (d := 50) rfl (by kernel_rfl) (by rw [← hev]; exact hdeps 50 (of_decide_eq_true (by kernel_rfl))))]
        left
        have x2 := H4.out.1.call hB
        have x3 := H4.out.2.1.call hB
        have x6 := H4.out.2.2.1.call hB
        have x7 := H4.out.2.2.2.1.call hB
        have x8 := H4.out.2.2.2.2.1.call hB
        have z2 := x2.lt
        have z3 := x3.lt
        have z6 := x6.lt
        have z7 := x7.lt
        have z8 := x8.lt
        have a0 := x2.cell' (i := 0) rfl
        have a1 := x2.cell' (i := 1) rfl
        have a2 := x2.cell' (i := 2) rfl
        have a3 := x2.cell' (i := 3) rfl
        have b0 := x3.cell' (i := 0) rfl
        have b1 := x3.cell' (i := 1) rfl
        have b2 := x3.cell' (i := 2) rfl
        have b3 := x3.cell' (i := 3) rfl
        have c0 := x6.cell' (i := 0) rfl
        have c1 := x6.cell' (i := 1) rfl
        have c2 := x6.cell' (i := 2) rfl
        have c3 := x6.cell' (i := 3) rfl
        have e0 := x7.cell' (i := 0) rfl
        have e1 := x7.cell' (i := 1) rfl
        have e2 := x7.cell' (i := 2) rfl
        have e3 := x7.cell' (i := 3) rfl
        have f0 := x8.cell' (i := 0) rfl
        have f1 := x8.cell' (i := 1) rfl
        have f2 := x8.cell' (i := 2) rfl
        have f3 := x8.cell' (i := 3) rfl
        clear x2 x3 x6 x7 x8
        refine step_val (v := Value.agg #[.int .u64 (setW (notP p) 0 : Int), .int .u64 (setW (notP p) 1 : Int), .int .u64 (setW (notP p) 2 : Int), .int .u64 (setW (notP p) 3 : Int)]) (w' := w') ?_ (hK _ _ (Below.refl _ _) (by intro d hd; cases hd; exact rfl) (by intro d hd hm; cases hd; exact absurd hm (by decide)))
        rw [← hev]
        clear hK hdeps hbase hev
        simp only [execOp, hec, hef, b6]
        go_simp
      refine ⟨?_, ?_⟩
      · intro a w' hB hsz hbase hdeps K hK
        obtain ⟨ev, hev⟩ : ∃ ev, ev = a.eval := ⟨_, rfl⟩
        have hec : ∀ v, ev (.const v) = v := fun v => by rw [hev]; rfl
        have hef : ∀ f, ev (.func f) = .func (.func f) #[] #[] := fun f => by rw [hev]; rfl
        rw [← hev] at hbase hdeps
        have d53 : ev (.tmp 53) = Value.agg #[.int .u64 (setW (notP p) 0 : Int), .int .u64 (setW (notP p) 1 : Int), .int .u64 (setW (notP p) 2 : Int), .int .u64 (setW (notP p) 3 : Int)] := hdeps 53 (of_decide_eq_true (by kernel_rfl))
        rw [if_pos (wanted_of (j := 35) (b := true) (d := 50) rfl (by kernel_rfl) (by rw [← hev]; exact hdeps 50 (of_decide_eq_true (by kernel_rfl))))]
        left
        refine step_enter (w' := w') (f := 31) (args := #[Value.agg #[.int .u64 (setW (notP p) 0 : Int), .int .u64 (setW (notP p) 1 : Int), .int .u64 (setW (notP p) 2 : Int), .int .u64 (setW (notP p) 3 : Int)]]) ?_ ?_
        · rw [← hev]
          clear hK hdeps hbase hev
          simp only [execOp, hec, hef, d53]
          go_simp
        · refine (bcount (notP p) _).mono ?_
          rintro e W ⟨rfl, hb⟩
          exact ⟨_, rfl, hK _ _ hb (by intro d hd; cases hd; exact rfl) (by intro d hd hm; cases hd; exact absurd hm (by decide))⟩
      refine ⟨?_, ?_⟩
      · intro a w' hB hsz hbase hdeps K hK
        obtain ⟨ev, hev⟩ : ∃ ev, ev = a.eval := ⟨_, rfl⟩
        have hec : ∀ v, ev (.const v) = v := fun v => by rw [hev]; rfl
        have hef : ∀ f, ev (.func f) = .func (.func f) #[] #[] := fun f => by rw [hev]; rfl
        rw [← hev] at hbase hdeps
        have d52 : ev (.tmp 52) = .int .i64 (cntP p 256 : Int) := hdeps 52 (of_decide_eq_true (by kernel_rfl))
        have d54 : ev (.tmp 54) = .int .i64 (cntP (notP p) 256 : Int) := hdeps 54 (of_decide_eq_true (by kernel_rfl))
        rw [if_pos (wanted_of (j := 35) (b := true) (d := 50) rfl (by kernel_rfl) (by rw [← hev]; exact hdeps 50 (of_decide_eq_true (by kernel_rfl))))]
        left
        have hs := cnt_not p
        refine step_val (v := .int .i64 256) (w' := w') ?_ (hK _ _ (Below.refl _ _) (by intro d hd; cases hd; exact rfl) (by intro d hd hm; cases hd; exact absurd hm (by decide)))
        rw [← hev]
        clear hK hdeps hbase hev
        simp only [execOp, hec, hef, d52, d54]
        go_simp
        decide
      refine ⟨?_, ?_⟩
      · intro a w' hB hsz hbase hdeps K hK
        obtain ⟨ev, hev⟩ : ∃ ev, ev = a.eval := ⟨_, rfl⟩
        have hec : ∀ v, ev (.const v) = v := fun v => by rw [hev]; rfl
        have hef : ∀ f, ev (.func f) = .func (.func f) #[] #[] := fun f => by rw [hev]; rfl
        rw [← hev] at hbase hdeps
        have d55 : ev (.tmp 55) = .int .i64 256 := hdeps 55 (of_decide_eq_true (by kernel_rfl))
        rw [if_pos (wanted_of (j := 35) (b := true) (d := 50) rfl (by kernel_rfl) (by rw [← hev]; exact hdeps 50 (of_decide_eq_true (by kernel_rfl))))]
        left
        refine step_val (v := .bool true) (w' := w') ?_ (hK _ _ (Below.refl _ _) (by intro d hd; cases hd; exact rfl) (by intro d hd hm; cases hd; exact absurd hm (by decide)))
        rw [← hev]
        clear hK hdeps hbase hev
        simp only [execOp, hec, hef, d55]
        go_simp
      refine ⟨?_, ?_⟩
      · intro a w' hB hsz hbase hdeps K hK
        obtain ⟨ev, hev⟩ : ∃ ev, ev = a.eval := ⟨_, rfl⟩
        have hec : ∀ v, ev (.const v) = v := fun v => by rw [hev]; rfl
        have hef : ∀ f, ev (.func f) = .func (.func f) #[] #[] := fun f => by rw [hev]; rfl
        rw [← hev] at hbase hdeps
        have d50 : ev (.tmp 50) = .bool true := hdeps 50 (of_decide_eq_true (by kernel_rfl))
        have d56 : ev (.tmp 56) = .bool true := hdeps 56 (of_decide_eq_true (by kernel_rfl))
        rw [if_pos (by kernel_rfl)]
        left
        refine step_val (v := .bool true) (w' := w') ?_ (hK _ _ (Below.refl _ _) (by intro d hd; cases hd; exact rfl) (by intro d hd hm; cases hd; exact absurd hm (by decide)))
        rw [← hev]
        clear hK hdeps hbase hev
        simp only [execOp, hec, hef, d50, d56]
        go_simp
      refine ⟨?_, ?_⟩
      · intro a w' hB hsz hbase hdeps K hK
        obtain ⟨ev, hev⟩ : ∃ ev, ev = a.eval := ⟨_, rfl⟩
        have hec : ∀ v, ev (.const v) = v := fun v => by rw [hev]; rfl
        have hef : ∀ f, ev (.func f) = .func (.func f) #[] #[] := fun f => by rw [hev]; rfl
        rw [← hev] at hbase hdeps
        have d57 : ev (.tmp 57) = .bool true := hdeps 57 (of_decide_eq_true (by kernel_rfl))
        rw [if_pos (by kernel_rfl)]
        left
        refine step_val (v := .bool true) (w' := w') ?_ (hK _ _ (Below.refl _ _) (by intro d hd; cases hd; exact rfl) (by intro d hd hm; cases hd; exact absurd hm (by decide)))
        rw [← hev]
        clear hK hdeps hbase hev
        simp only [execOp, hec, hef, d57]
        go_simp
      exact trivial

    case fin4 =>
      intro a x hB hsz hdef hbase hS _
      have h4 : a.eval (.tmp 4) = .bool true := hS _ (List.mem_of_getElem? (i := 43) rfl) 4 rfl
      have hfin := gr_call H4.out.2.2.2.2.2 hB
      clear hS H4 hbase
      simp only [List.drop]
      go_wp2_with (fail)
      refine bodyPost_ret (v := .bool true) (by simp only [Act.eval, Array.getD_eq_getD_getElem?] at h4; simp [results, Tryd.results7, go_sem, h4]) (by rw [hdef]) ⟨rfl, hfin⟩
end Go.Proofs.YtcfdadgijnmemaaDoor
