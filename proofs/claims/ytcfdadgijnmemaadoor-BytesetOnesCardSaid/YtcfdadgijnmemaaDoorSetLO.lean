/-
  BytesetOnes, walked: it returns true, whatever the input; condition: the library's table lies as it is laid.
-/
import Derived.Test.YtcfdadgijnmemaaDoorSetLT
import Derived.Test.YtcfdadgijnmemaaDoorInv
namespace Go.Proofs.YtcfdadgijnmemaaDoor
open Go.RowKit
set_option linter.unusedVariables false
set_option linter.unusedSimpArgs false

theorem wanted_of {ops : Array Oper} {o : Oper} {a : Act} {j d : Nat} {b : Bool} (hg : o.guard = some (j, b)) (hj : (ops[j]?).bind (·.dst) = some d) (h : a.eval (.tmp d) = .bool b) : Region.wanted o (yielded ops a.tmps) = true := by
  have hd : a.tmps[d]? = some (.bool b) := by
    unfold Act.eval at h
    cases hx : a.tmps[d]? with
    | none => simp [hx, undef] at h
    | some v => simp [hx] at h; rw [h]
  unfold Region.wanted
  rw [hg]
  have hy : yielded ops a.tmps j = some b := by
    unfold yielded
    have e : ((ops[j]?).bind fun x => x.dst) = some d := hj
    simp only [e, Option.bind_some, hd]
  simp [hy]
theorem own_str {W : World} {B : Nat} {p : Nat → Bool} {v : Value} (h : W.ownsRow B 5 1 v (lstP p 256).length (cellsF (lstP p 256))) : (convert 22 9 v).run Tryd.prog W = .ok (.string (strP p)) W := by
  rw [cellsF_bytes] at h
  exact run_own_string Tryd.underlying22 Tryd.underlying5 Tryd.underlying9 (by simp) h
theorem step_val {P : Program} {Q : Exit → Act → World → Prop} {K : Act → World → Prop} {o : Oper} {a : Act} {w w' : World} {v : Value} (hr : (execOp a.eval o).run P w = .ok (.value v) w') (h : K (a.put o.dst v) w') : o.wp P a w K Q := by
  unfold Oper.wp
  rw [hr]
  exact h
theorem step_enter {P : Program} {Q : Exit → Act → World → Prop} {K : Act → World → Prop} {o : Oper} {a : Act} {w w' : World} {f : FuncId} {args : Array Value} (hr : (execOp a.eval o).run P w = .ok (.enter f args) w') (hc : Calls P f args w' fun e w'' => ∃ v, e = .returned v ∧ K (a.put o.dst v) w'') : o.wp P a w K Q := by
  unfold Oper.wp
  rw [hr]
  exact hc.mono fun e w'' ⟨v, he, hk⟩ => by subst he; exact hk
set_option maxRecDepth 100000 in
set_option maxHeartbeats 8000000 in
theorem law_ones (p : Nat → Bool) (b : Nat) (hb : b < 256) (n : Int) (hn : -9223372036854775808 ≤ n ∧ n ≤ 9223372036854775807) (w : World) (hT : TabOk w) (hw : 0 < w.heap.size) :
    Calls Tryd.prog 5 #[Value.agg #[.int .u64 (setW p 0 : Int), .int .u64 (setW p 1 : Int), .int .u64 (setW p 2 : Int), .int .u64 (setW p 3 : Int)], .int .u8 (b : Int), .int .i64 n] w fun e w' => e = .returned (.bool true) ∧ Below w.heap.size w w' := by
  have HT := Lib.hid hT
  obtain ⟨hn1, hn2⟩ := hn
  obtain ⟨X, hX⟩ : ∃ X, X = w.alloc (.cells #[Value.int .u64 (setW p 0 : Int), .int .u64 (setW p 1 : Int), .int .u64 (setW p 2 : Int), .int .u64 (setW p 3 : Int)] 28) := ⟨_, rfl⟩
  have f0 := Blk.new w 28 #[Value.int .u64 (setW p 0 : Int), .int .u64 (setW p 1 : Int), .int .u64 (setW p 2 : Int), .int .u64 (setW p 3 : Int)]
  have i0 := gr_alloc (Below.refl w.heap.size w) (.cells #[Value.int .u64 (setW p 0 : Int), .int .u64 (setW p 1 : Int), .int .u64 (setW p 2 : Int), .int .u64 (setW p 3 : Int)] 28)
  rw [← hX] at f0 i0
  obtain ⟨a0, a1, a2, a3⟩ := blk_kin4 f0
  have T2 := hT.below i0 hw
  have hw2 := Nat.lt_of_lt_of_le hw i0.size
  have T3 : Hid (∀ x : Kin X, TabOk x.world ∧ 0 < x.world.heap.size) := Lib.hid (fun x => ⟨T2.below x.below hw2, Nat.lt_of_lt_of_le hw2 x.below.size⟩)
  have h1 := eqSet (notP p) (notP p)
  have h2 := eqSet (foldP p) (foldP p)
  rw [eqP_self] at h1 h2
  have HX := Lib.hid (And.intro hX (And.intro f0 i0))
  clear f0 i0 hX T2 hw2 hT
  go_enter Tryd.func5, Tryd.ntmps5
  go_wp2_with (fail)
  rw [← HX.out.1]
  refine wp_region_kin_lit (by kernel_rfl) (by kernel_rfl) ?_
  repeat (go_big_quiet_step (first | (go_at_call 25; exact Calls.kin_of (bhasp p b hb _)) | (go_at_call 26; exact Calls.kin_of (rhasp p b hb _)) | (go_at_call 27; exact Calls.kin_of (bnot p _)) | (go_at_call 28; exact Calls.kin_of (rnot p _)) | (go_at_call 29; exact Calls.kin_of (bfold p _ (T3.out _).1 (T3.out _).2)) | (go_at_call 30; exact Calls.kin_of (rfold p _)) | (go_at_call 31; exact Calls.kin_of (bcount p _)) | (go_at_call 32; exact Calls.kin_of (rcount p _))))
  refine kin_end ?_
  intro x
  have fx := HX.out.2.1.call x.below
  have ix := gr_call HX.out.2.2 x.below
  have HY := Lib.hid (And.intro fx ix)
  clear fx ix
  go_wp2_with (fail)
  refine (bnext p n _ (HT.out.below HY.out.2 hw) (Nat.lt_of_lt_of_le hw HY.out.2.size)).mono ?_
  rintro e W2 ⟨rfl, k2⟩
  have f2 := HY.out.1.call k2
  have i2 := gr_call HY.out.2 k2
  have c0 := f2.cell' (i := 0) rfl
  have c1 := f2.cell' (i := 1) rfl
  have c2 := f2.cell' (i := 2) rfl
  have c3 := f2.cell' (i := 3) rfl
  have H2 := Lib.hid (And.intro f2 i2)
  clear f2 i2 k2 a0 a1 a2 a3
  go_wp2_with (fail)
  refine (rnext p n ⟨hn1, hn2⟩ _).mono ?_
  rintro e W3 ⟨rfl, k3⟩
  have f3 := H2.out.1.call k3
  have i3 := gr_call H2.out.2 k3
  have d0 := f3.cell' (i := 0) rfl
  have d1 := f3.cell' (i := 1) rfl
  have d2 := f3.cell' (i := 2) rfl
  have d3 := f3.cell' (i := 3) rfl
  have z3 := f3.lt
  have H3 := Lib.hid (And.intro f3 i3)
  clear f3 i3 k3 c0 c1 c2 c3
  generalize nxtV (nxtP p n) = nv
  generalize nxtE (nxtP p n) = ne
  have TB : Hid (∀ W : World, Below w.heap.size w W → TabOk W ∧ 0 < W.heap.size) := Lib.hid (fun W h => ⟨HT.out.below h hw, Nat.lt_of_lt_of_le hw h.size⟩)
  have HB := H3.out.2
  go_wp2_with (fail)
  refine wp_region_known (fun d w v => match d with
    | 51 => v = Value.agg #[.int .u64 (setW p 0 : Int), .int .u64 (setW p 1 : Int), .int .u64 (setW p 2 : Int), .int .u64 (setW p 3 : Int)] | 54 => v = Value.agg #[.int .u64 (setW p 0 : Int), .int .u64 (setW p 1 : Int), .int .u64 (setW p 2 : Int), .int .u64 (setW p 3 : Int)]
    | 52 => ∃ B, w.ownsRow B 5 1 v (lstP p 256).length (cellsF (lstP p 256))
    | 55 => ∃ B, w.ownsRow B 5 1 v (lstP p 256).length (cellsF (lstP p 256))
    | 53 => v = .string (strP p) | 56 => v = .string (strP p)
    | 59 => v = .int .i64 nv | 60 => v = .int .i64 nv | 64 => v = .int .i64 ne | 65 => v = .int .i64 ne
    | _ => v = .bool true) (by kernel_rfl) (by kernel_rfl) (by kernel_rfl) ?stable ?steps ?fin
  case stable =>
    intro d w w' v hB h
    revert h
    split <;> intro h <;> first | exact h | (obtain ⟨B, hown⟩ := h; exact ⟨B, own_below hown hB (Nat.le_refl _)⟩)
  case fin =>
    intro a w' hB hsz hdef hbase hS
    have h6 : a.eval (.tmp 6) = .bool true := hS _ (List.mem_of_getElem? (i := 20) rfl) 6 rfl
    clear hS
    have hfin := gr_call H3.out.2 hB
    clear H3 HB d0 d1 d2 d3 h1 h2 hbase
    go_wp2_with (fail)
    refine bodyPost_ret (v := .bool true) (by simp only [Act.eval, Array.getD_eq_getD_getElem?] at h6; simp [results, Tryd.results5, go_sem, h6]) (by rw [hdef]) ⟨rfl, hfin⟩
  case steps =>
    unfold StepsOk
    refine ⟨?_, ?_⟩
    · intro a w' hB hsz hbase hdeps K hK
      obtain ⟨ev, hev⟩ : ∃ ev, ev = a.eval := ⟨_, rfl⟩
      have hec : ∀ v, ev (.const v) = v := fun v => by rw [hev]; rfl
      have hef : ∀ f, ev (.func f) = .func (.func f) #[] #[] := fun f => by rw [hev]; rfl
      rw [← hev] at hbase hdeps
      have b3 : ev (.tmp 3) = (.pointer (some ⟨w.heap.size, 0, none⟩)) := hbase 3 (by kernel_rfl)
      rw [if_pos (by kernel_rfl)]
      left
      have fx := H3.out.1.call hB
      have zx := fx.lt
      have a0 := fx.cell' (i := 0) rfl
      have a1 := fx.cell' (i := 1) rfl
      have a2 := fx.cell' (i := 2) rfl
      have a3 := fx.cell' (i := 3) rfl
      clear fx
      refine step_val (v := Value.agg #[.int .u64 (setW p 0 : Int), .int .u64 (setW p 1 : Int), .int .u64 (setW p 2 : Int), .int .u64 (setW p 3 : Int)]) (w' := w') ?_ (hK _ _ (Below.refl _ _) (by intro d hd; cases hd; exact rfl))
      rw [← hev]
      clear hK hdeps hbase hev
      simp only [execOp, hec, hef, b3]
      go_simp
    refine ⟨?_, ?_⟩
    · intro a w' hB hsz hbase hdeps K hK
      obtain ⟨ev, hev⟩ : ∃ ev, ev = a.eval := ⟨_, rfl⟩
      have hec : ∀ v, ev (.const v) = v := fun v => by rw [hev]; rfl
      have hef : ∀ f, ev (.func f) = .func (.func f) #[] #[] := fun f => by rw [hev]; rfl
      rw [← hev] at hbase hdeps
      have d51 : ev (.tmp 51) = Value.agg #[.int .u64 (setW p 0 : Int), .int .u64 (setW p 1 : Int), .int .u64 (setW p 2 : Int), .int .u64 (setW p 3 : Int)] := hdeps 51 (of_decide_eq_true (by kernel_rfl))
      rw [if_pos (by kernel_rfl)]
      left
      refine step_enter (w' := w') (f := 35) (args := #[Value.agg #[.int .u64 (setW p 0 : Int), .int .u64 (setW p 1 : Int), .int .u64 (setW p 2 : Int), .int .u64 (setW p 3 : Int)]]) ?_ ?_
      · rw [← hev]
        clear hK hdeps hbase hev
        simp only [execOp, hec, hef, d51]
        go_simp
      · refine (blist p _ (TB.out _ (gr_call H3.out.2 hB)).1 (TB.out _ (gr_call H3.out.2 hB)).2).mono ?_
        rintro e W ⟨v, rfl, hown, hb⟩
        exact ⟨v, rfl, hK _ _ hb (by intro d hd; cases hd; exact ⟨_, hown⟩)⟩
    refine ⟨?_, ?_⟩
    · intro a w' hB hsz hbase hdeps K hK
      obtain ⟨ev, hev⟩ : ∃ ev, ev = a.eval := ⟨_, rfl⟩
      have hec : ∀ v, ev (.const v) = v := fun v => by rw [hev]; rfl
      have hef : ∀ f, ev (.func f) = .func (.func f) #[] #[] := fun f => by rw [hev]; rfl
      rw [← hev] at hbase hdeps
      have d52 := hdeps 52 (of_decide_eq_true (by kernel_rfl))
      rw [if_pos (by kernel_rfl)]
      left
      obtain ⟨B, hown⟩ := d52
      have hcs := own_str hown
      clear hown
      refine step_val (v := .string (strP p)) (w' := w') ?_ (hK _ _ (Below.refl _ _) (by intro d hd; cases hd; exact rfl))
      rw [← hev]
      clear hK hdeps hbase hev
      simp only [execOp, hec, hef]
      go_simp
    refine ⟨?_, ?_⟩
    · intro a w' hB hsz hbase hdeps K hK
      obtain ⟨ev, hev⟩ : ∃ ev, ev = a.eval := ⟨_, rfl⟩
      have hec : ∀ v, ev (.const v) = v := fun v => by rw [hev]; rfl
      have hef : ∀ f, ev (.func f) = .func (.func f) #[] #[] := fun f => by rw [hev]; rfl
      rw [← hev] at hbase hdeps
      have b3 : ev (.tmp 3) = (.pointer (some ⟨w.heap.size, 0, none⟩)) := hbase 3 (by kernel_rfl)
      rw [if_pos (by kernel_rfl)]
      left
      have fx := H3.out.1.call hB
      have zx := fx.lt
      have a0 := fx.cell' (i := 0) rfl
      have a1 := fx.cell' (i := 1) rfl
      have a2 := fx.cell' (i := 2) rfl
      have a3 := fx.cell' (i := 3) rfl
      clear fx
      refine step_val (v := Value.agg #[.int .u64 (setW p 0 : Int), .int .u64 (setW p 1 : Int), .int .u64 (setW p 2 : Int), .int .u64 (setW p 3 : Int)]) (w' := w') ?_ (hK _ _ (Below.refl _ _) (by intro d hd; cases hd; exact rfl))
      rw [← hev]
      clear hK hdeps hbase hev
      simp only [execOp, hec, hef, b3]
      go_simp
    refine ⟨?_, ?_⟩
    · intro a w' hB hsz hbase hdeps K hK
      obtain ⟨ev, hev⟩ : ∃ ev, ev = a.eval := ⟨_, rfl⟩
      have hec : ∀ v, ev (.const v) = v := fun v => by rw [hev]; rfl
      have hef : ∀ f, ev (.func f) = .func (.func f) #[] #[] := fun f => by rw [hev]; rfl
      rw [← hev] at hbase hdeps
      have d54 : ev (.tmp 54) = Value.agg #[.int .u64 (setW p 0 : Int), .int .u64 (setW p 1 : Int), .int .u64 (setW p 2 : Int), .int .u64 (setW p 3 : Int)] := hdeps 54 (of_decide_eq_true (by kernel_rfl))
      rw [if_pos (by kernel_rfl)]
      left
      refine step_enter (w' := w') (f := 36) (args := #[Value.agg #[.int .u64 (setW p 0 : Int), .int .u64 (setW p 1 : Int), .int .u64 (setW p 2 : Int), .int .u64 (setW p 3 : Int)]]) ?_ ?_
      · rw [← hev]
        clear hK hdeps hbase hev
        simp only [execOp, hec, hef, d54]
        go_simp
      · refine (rlist p _).mono ?_
        rintro e W ⟨v, rfl, hown, hb⟩
        exact ⟨v, rfl, hK _ _ hb (by intro d hd; cases hd; exact ⟨_, hown⟩)⟩
    refine ⟨?_, ?_⟩
    · intro a w' hB hsz hbase hdeps K hK
      obtain ⟨ev, hev⟩ : ∃ ev, ev = a.eval := ⟨_, rfl⟩
      have hec : ∀ v, ev (.const v) = v := fun v => by rw [hev]; rfl
      have hef : ∀ f, ev (.func f) = .func (.func f) #[] #[] := fun f => by rw [hev]; rfl
      rw [← hev] at hbase hdeps
      have d55 := hdeps 55 (of_decide_eq_true (by kernel_rfl))
      rw [if_pos (by kernel_rfl)]
      left
      obtain ⟨B, hown⟩ := d55
      have hcs := own_str hown
      clear hown
      refine step_val (v := .string (strP p)) (w' := w') ?_ (hK _ _ (Below.refl _ _) (by intro d hd; cases hd; exact rfl))
      rw [← hev]
      clear hK hdeps hbase hev
      simp only [execOp, hec, hef]
      go_simp
    refine ⟨?_, ?_⟩
    · intro a w' hB hsz hbase hdeps K hK
      obtain ⟨ev, hev⟩ : ∃ ev, ev = a.eval := ⟨_, rfl⟩
      have hec : ∀ v, ev (.const v) = v := fun v => by rw [hev]; rfl
      have hef : ∀ f, ev (.func f) = .func (.func f) #[] #[] := fun f => by rw [hev]; rfl
      rw [← hev] at hbase hdeps
      have d53 : ev (.tmp 53) = .string (strP p) := hdeps 53 (of_decide_eq_true (by kernel_rfl))
      have d56 : ev (.tmp 56) = .string (strP p) := hdeps 56 (of_decide_eq_true (by kernel_rfl))
      rw [if_pos (by kernel_rfl)]
      left
      refine step_val (v := .bool true) (w' := w') ?_ (hK _ _ (Below.refl _ _) (by intro d hd; cases hd; exact rfl))
      rw [← hev]
      clear hK hdeps hbase hev
      simp only [execOp, hec, hef, d53, d56]
      go_simp
    refine ⟨?_, ?_⟩
    · intro a w' hB hsz hbase hdeps K hK
      obtain ⟨ev, hev⟩ : ∃ ev, ev = a.eval := ⟨_, rfl⟩
      have hec : ∀ v, ev (.const v) = v := fun v => by rw [hev]; rfl
      have hef : ∀ f, ev (.func f) = .func (.func f) #[] #[] := fun f => by rw [hev]; rfl
      rw [← hev] at hbase hdeps
      have d57 : ev (.tmp 57) = .bool true := hdeps 57 (of_decide_eq_true (by kernel_rfl))
      rw [if_pos (by kernel_rfl)]
      left
      refine step_val (v := .bool true) (w' := w') ?_ (hK _ _ (Below.refl _ _) (by intro d hd; cases hd; exact rfl))
      rw [← hev]
      clear hK hdeps hbase hev
      simp only [execOp, hec, hef, d57]
      go_simp
    refine ⟨?_, ?_⟩
    · intro a w' hB hsz hbase hdeps K hK
      obtain ⟨ev, hev⟩ : ∃ ev, ev = a.eval := ⟨_, rfl⟩
      have hec : ∀ v, ev (.const v) = v := fun v => by rw [hev]; rfl
      have hef : ∀ f, ev (.func f) = .func (.func f) #[] #[] := fun f => by rw [hev]; rfl
      rw [← hev] at hbase hdeps
      have b7 : ev (.tmp 7) = .int .i64 nv := hbase 7 (by kernel_rfl)
      rw [if_pos (wanted_of (j := 7) (b := true) (d := 58) rfl (by kernel_rfl) (by rw [← hev]; exact hdeps 58 (of_decide_eq_true (by kernel_rfl))))]
      left
      refine step_val (v := .int .i64 nv) (w' := w') ?_ (hK _ _ (Below.refl _ _) (by intro d hd; cases hd; exact rfl))
      rw [← hev]
      clear hK hdeps hbase hev
      simp only [execOp, hec, hef, b7]
      go_simp
    refine ⟨?_, ?_⟩
    · intro a w' hB hsz hbase hdeps K hK
      obtain ⟨ev, hev⟩ : ∃ ev, ev = a.eval := ⟨_, rfl⟩
      have hec : ∀ v, ev (.const v) = v := fun v => by rw [hev]; rfl
      have hef : ∀ f, ev (.func f) = .func (.func f) #[] #[] := fun f => by rw [hev]; rfl
      rw [← hev] at hbase hdeps
      have b9 : ev (.tmp 9) = .int .i64 nv := hbase 9 (by kernel_rfl)
      rw [if_pos (wanted_of (j := 7) (b := true) (d := 58) rfl (by kernel_rfl) (by rw [← hev]; exact hdeps 58 (of_decide_eq_true (by kernel_rfl))))]
      left
      refine step_val (v := .int .i64 nv) (w' := w') ?_ (hK _ _ (Below.refl _ _) (by intro d hd; cases hd; exact rfl))
      rw [← hev]
      clear hK hdeps hbase hev
      simp only [execOp, hec, hef, b9]
      go_simp
    refine ⟨?_, ?_⟩
    · intro a w' hB hsz hbase hdeps K hK
      obtain ⟨ev, hev⟩ : ∃ ev, ev = a.eval := ⟨_, rfl⟩
      have hec : ∀ v, ev (.const v) = v := fun v => by rw [hev]; rfl
      have hef : ∀ f, ev (.func f) = .func (.func f) #[] #[] := fun f => by rw [hev]; rfl
      rw [← hev] at hbase hdeps
      have d59 : ev (.tmp 59) = .int .i64 nv := hdeps 59 (of_decide_eq_true (by kernel_rfl))
      have d60 : ev (.tmp 60) = .int .i64 nv := hdeps 60 (of_decide_eq_true (by kernel_rfl))
      rw [if_pos (wanted_of (j := 7) (b := true) (d := 58) rfl (by kernel_rfl) (by rw [← hev]; exact hdeps 58 (of_decide_eq_true (by kernel_rfl))))]
      left
      refine step_val (v := .bool true) (w' := w') ?_ (hK _ _ (Below.refl _ _) (by intro d hd; cases hd; exact rfl))
      rw [← hev]
      clear hK hdeps hbase hev
      simp only [execOp, hec, hef, d59, d60]
      go_simp
    refine ⟨?_, ?_⟩
    · intro a w' hB hsz hbase hdeps K hK
      obtain ⟨ev, hev⟩ : ∃ ev, ev = a.eval := ⟨_, rfl⟩
      have hec : ∀ v, ev (.const v) = v := fun v => by rw [hev]; rfl
      have hef : ∀ f, ev (.func f) = .func (.func f) #[] #[] := fun f => by rw [hev]; rfl
      rw [← hev] at hbase hdeps
      have d58 : ev (.tmp 58) = .bool true := hdeps 58 (of_decide_eq_true (by kernel_rfl))
      have d61 : ev (.tmp 61) = .bool true := hdeps 61 (of_decide_eq_true (by kernel_rfl))
      rw [if_pos (by kernel_rfl)]
      left
      refine step_val (v := .bool true) (w' := w') ?_ (hK _ _ (Below.refl _ _) (by intro d hd; cases hd; exact rfl))
      rw [← hev]
      clear hK hdeps hbase hev
      simp only [execOp, hec, hef, d58, d61]
      go_simp
    refine ⟨?_, ?_⟩
    · intro a w' hB hsz hbase hdeps K hK
      obtain ⟨ev, hev⟩ : ∃ ev, ev = a.eval := ⟨_, rfl⟩
      have hec : ∀ v, ev (.const v) = v := fun v => by rw [hev]; rfl
      have hef : ∀ f, ev (.func f) = .func (.func f) #[] #[] := fun f => by rw [hev]; rfl
      rw [← hev] at hbase hdeps
      have d62 : ev (.tmp 62) = .bool true := hdeps 62 (of_decide_eq_true (by kernel_rfl))
      rw [if_pos (by kernel_rfl)]
      left
      refine step_val (v := .bool true) (w' := w') ?_ (hK _ _ (Below.refl _ _) (by intro d hd; cases hd; exact rfl))
      rw [← hev]
      clear hK hdeps hbase hev
      simp only [execOp, hec, hef, d62]
      go_simp
    refine ⟨?_, ?_⟩
    · intro a w' hB hsz hbase hdeps K hK
      obtain ⟨ev, hev⟩ : ∃ ev, ev = a.eval := ⟨_, rfl⟩
      have hec : ∀ v, ev (.const v) = v := fun v => by rw [hev]; rfl
      have hef : ∀ f, ev (.func f) = .func (.func f) #[] #[] := fun f => by rw [hev]; rfl
      rw [← hev] at hbase hdeps
      have b8 : ev (.tmp 8) = .int .i64 ne := hbase 8 (by kernel_rfl)
      rw [if_pos (wanted_of (j := 12) (b := true) (d := 63) rfl (by kernel_rfl) (by rw [← hev]; exact hdeps 63 (of_decide_eq_true (by kernel_rfl))))]
      left
      refine step_val (v := .int .i64 ne) (w' := w') ?_ (hK _ _ (Below.refl _ _) (by intro d hd; cases hd; exact rfl))
      rw [← hev]
      clear hK hdeps hbase hev
      simp only [execOp, hec, hef, b8]
      go_simp
    refine ⟨?_, ?_⟩
    · intro a w' hB hsz hbase hdeps K hK
      obtain ⟨ev, hev⟩ : ∃ ev, ev = a.eval := ⟨_, rfl⟩
      have hec : ∀ v, ev (.const v) = v := fun v => by rw [hev]; rfl
      have hef : ∀ f, ev (.func f) = .func (.func f) #[] #[] := fun f => by rw [hev]; rfl
      rw [← hev] at hbase hdeps
      have b10 : ev (.tmp 10) = .int .i64 ne := hbase 10 (by kernel_rfl)
      rw [if_pos (wanted_of (j := 12) (b := true) (d := 63) rfl (by kernel_rfl) (by rw [← hev]; exact hdeps 63 (of_decide_eq_true (by kernel_rfl))))]
      left
      refine step_val (v := .int .i64 ne) (w' := w') ?_ (hK _ _ (Below.refl _ _) (by intro d hd; cases hd; exact rfl))
      rw [← hev]
      clear hK hdeps hbase hev
      simp only [execOp, hec, hef, b10]
      go_simp
    refine ⟨?_, ?_⟩
    · intro a w' hB hsz hbase hdeps K hK
      obtain ⟨ev, hev⟩ : ∃ ev, ev = a.eval := ⟨_, rfl⟩
      have hec : ∀ v, ev (.const v) = v := fun v => by rw [hev]; rfl
      have hef : ∀ f, ev (.func f) = .func (.func f) #[] #[] := fun f => by rw [hev]; rfl
      rw [← hev] at hbase hdeps
      have d64 : ev (.tmp 64) = .int .i64 ne := hdeps 64 (of_decide_eq_true (by kernel_rfl))
      have d65 : ev (.tmp 65) = .int .i64 ne := hdeps 65 (of_decide_eq_true (by kernel_rfl))
      rw [if_pos (wanted_of (j := 12) (b := true) (d := 63) rfl (by kernel_rfl) (by rw [← hev]; exact hdeps 63 (of_decide_eq_true (by kernel_rfl))))]
      left
      refine step_val (v := .bool true) (w' := w') ?_ (hK _ _ (Below.refl _ _) (by intro d hd; cases hd; exact rfl))
      rw [← hev]
      clear hK hdeps hbase hev
      simp only [execOp, hec, hef, d64, d65]
      go_simp
    refine ⟨?_, ?_⟩
    · intro a w' hB hsz hbase hdeps K hK
      obtain ⟨ev, hev⟩ : ∃ ev, ev = a.eval := ⟨_, rfl⟩
      have hec : ∀ v, ev (.const v) = v := fun v => by rw [hev]; rfl
      have hef : ∀ f, ev (.func f) = .func (.func f) #[] #[] := fun f => by rw [hev]; rfl
      rw [← hev] at hbase hdeps
      have d63 : ev (.tmp 63) = .bool true := hdeps 63 (of_decide_eq_true (by kernel_rfl))
      have d66 : ev (.tmp 66) = .bool true := hdeps 66 (of_decide_eq_true (by kernel_rfl))
      rw [if_pos (by kernel_rfl)]
      left
      refine step_val (v := .bool true) (w' := w') ?_ (hK _ _ (Below.refl _ _) (by intro d hd; cases hd; exact rfl))
      rw [← hev]
      clear hK hdeps hbase hev
      simp only [execOp, hec, hef, d63, d66]
      go_simp
    refine ⟨?_, ?_⟩
    · intro a w' hB hsz hbase hdeps K hK
      obtain ⟨ev, hev⟩ : ∃ ev, ev = a.eval := ⟨_, rfl⟩
      have hec : ∀ v, ev (.const v) = v := fun v => by rw [hev]; rfl
      have hef : ∀ f, ev (.func f) = .func (.func f) #[] #[] := fun f => by rw [hev]; rfl
      rw [← hev] at hbase hdeps
      have d67 : ev (.tmp 67) = .bool true := hdeps 67 (of_decide_eq_true (by kernel_rfl))
      rw [if_pos (by kernel_rfl)]
      left
      refine step_val (v := .bool true) (w' := w') ?_ (hK _ _ (Below.refl _ _) (by intro d hd; cases hd; exact rfl))
      rw [← hev]
      clear hK hdeps hbase hev
      simp only [execOp, hec, hef, d67]
      go_simp
    refine ⟨?_, ?_⟩
    · intro a w' hB hsz hbase hdeps K hK
      obtain ⟨ev, hev⟩ : ∃ ev, ev = a.eval := ⟨_, rfl⟩
      have hec : ∀ v, ev (.const v) = v := fun v => by rw [hev]; rfl
      have hef : ∀ f, ev (.func f) = .func (.func f) #[] #[] := fun f => by rw [hev]; rfl
      rw [← hev] at hbase hdeps
      rw [if_pos (wanted_of (j := 17) (b := true) (d := 68) rfl (by kernel_rfl) (by rw [← hev]; exact hdeps 68 (of_decide_eq_true (by kernel_rfl))))]
      left
      refine step_enter (w' := w') (f := 10) (args := #[]) ?_ ?_
      · rw [← hev]
        clear hK hdeps hbase hev
        simp only [execOp, hec, hef]
        go_simp
      · refine (awake _ (TB.out _ (gr_call H3.out.2 hB)).1 (TB.out _ (gr_call H3.out.2 hB)).2).mono ?_
        rintro e W ⟨rfl, hb⟩
        exact ⟨_, rfl, hK _ _ hb (by intro d hd; cases hd; exact rfl)⟩
    refine ⟨?_, ?_⟩
    · intro a w' hB hsz hbase hdeps K hK
      obtain ⟨ev, hev⟩ : ∃ ev, ev = a.eval := ⟨_, rfl⟩
      have hec : ∀ v, ev (.const v) = v := fun v => by rw [hev]; rfl
      have hef : ∀ f, ev (.func f) = .func (.func f) #[] #[] := fun f => by rw [hev]; rfl
      rw [← hev] at hbase hdeps
      have d68 : ev (.tmp 68) = .bool true := hdeps 68 (of_decide_eq_true (by kernel_rfl))
      have d69 : ev (.tmp 69) = .bool true := hdeps 69 (of_decide_eq_true (by kernel_rfl))
      rw [if_pos (by kernel_rfl)]
      left
      refine step_val (v := .bool true) (w' := w') ?_ (hK _ _ (Below.refl _ _) (by intro d hd; cases hd; exact rfl))
      rw [← hev]
      clear hK hdeps hbase hev
      simp only [execOp, hec, hef, d68, d69]
      go_simp
    refine ⟨?_, ?_⟩
    · intro a w' hB hsz hbase hdeps K hK
      obtain ⟨ev, hev⟩ : ∃ ev, ev = a.eval := ⟨_, rfl⟩
      have hec : ∀ v, ev (.const v) = v := fun v => by rw [hev]; rfl
      have hef : ∀ f, ev (.func f) = .func (.func f) #[] #[] := fun f => by rw [hev]; rfl
      rw [← hev] at hbase hdeps
      have d70 : ev (.tmp 70) = .bool true := hdeps 70 (of_decide_eq_true (by kernel_rfl))
      rw [if_pos (by kernel_rfl)]
      left
      refine step_val (v := .bool true) (w' := w') ?_ (hK _ _ (Below.refl _ _) (by intro d hd; cases hd; exact rfl))
      rw [← hev]
      clear hK hdeps hbase hev
      simp only [execOp, hec, hef, d70]
      go_simp
    exact trivial
end Go.Proofs.YtcfdadgijnmemaaDoor
