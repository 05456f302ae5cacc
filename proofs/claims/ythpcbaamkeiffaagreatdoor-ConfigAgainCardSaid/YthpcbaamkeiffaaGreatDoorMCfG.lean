/-
  The drawn regions of config.Text; no condition beyond sizes.
-/
import Derived.Test.YthpcbaamkeiffaaGreatDoorMCfF
import Derived.Test.YthpcbaamkeiffaaGreatDoorMCfD
import Derived.Test.YthpcbaamkeiffaaGreatDoorMInx
namespace Go.Proofs.YthpcbaamkeiffaaGreatDoor
open Go.RowKit Go.Shelf
set_option linter.unusedVariables false
set_option linter.unusedSimpArgs false

theorem okI {s : ByteArray} {n : Int} (h : I64 n) : ∀ a ∈ [Arg.s s, Arg.n n], argOk a := by
  intro a ha
  simp at ha
  rcases ha with rfl | rfl
  · trivial
  · exact h
theorem words_at (l : List Arg) (L : List ByteArray) (hL : L = l.flatMap argT) (hl : l.length ≤ 1000) (hok : ∀ a ∈ l, argOk a) (b : Nat) (T : TypeId) (c B : Nat) (w : World) (hT : Tabs w) (hb : Blk w b T (l.map argV).toArray) (hB : B ≤ w.heap.size) :
    Calls Tryz.prog 35 #[.slice (some ⟨b, 0, none⟩) l.length c] w fun e W => ∃ u, e = .returned (.agg #[.int .i64 0, u]) ∧ W.ownsRow B 116 3 u L.length (wdsC (rowW L).w) ∧ Below w.heap.size w W :=
  (words_code l L hL hl hok b T c w hT hb).mono fun e W ⟨⟨u, h1, h2⟩, h3⟩ => ⟨u, h1, own_weaken h2 hB, h3⟩
/-- One row more, made in the block before. -/
theorem OwnRs.app {W Y : World} {B g : Nat} {v vw : Value} {rs : List Rw} (h : OwnRs W B v rs) (hB : B ≤ W.heap.size) (hY : Below W.heap.size W Y) (r : Rw) (hg : Blk Y g 77 #[.int .i64 (r.a : Int), vw]) (hw : Y.ownsRow B 116 3 vw r.w.length (wdsC r.w)) (hn : rs.length ≤ 1000000000) : ∃ v' X2,
    (Builtin.append_ #[79, 79] 79 #[v, .slice (some ⟨g, 0, none⟩) 1 1]).run Tryz.prog Y = .ok v' X2 ∧
    OwnRs X2 B v' (rs ++ [r]) ∧ Below B W X2 ∧ (∀ k t cs, Blk W k t cs → t ≠ 77 → Blk X2 k t cs) := by
  obtain ⟨i1, hi1, hz10, hz11, hz12⟩ := info_parts infoRow
  obtain ⟨vs, ho, hin⟩ := h
  have h2 := own_below ho hY (Nat.le_refl _)
  obtain ⟨wa, wc, rfl⟩ := own_slice hw
  obtain ⟨v', X2, hr, hown, hgr, _⟩ := run_append_own (P := Tryz.prog) Y B 79 79 77 i1 _ 2 32 Tryz.underlying79 hi1 hz10 hz11 hz12 rfl (by decide) v rs.length (rowsC rs vs) h2
    ⟨g, 0, none⟩ 1 1 [.int .i64 (r.a : Int), .slice wa r.w.length wc] rfl (by
      intro j u hj
      rw [Addr.add_lit, Nat.zero_add]
      exact hg.cell' (by simpa using hj)) (by
      intro u hu
      simp at hu
      rcases hu with rfl | rfl <;> rfl) (by unfold maxLen; omega) (by omega) (Nat.le_trans hB hY.size)
  have hkeep : ∀ k t cs, Blk W k t cs → t ≠ 77 → Blk X2 k t cs := fun k t cs hk ht => (hk.call hY).grown hgr (own_blk_ne h2 (hk.call hY) (fun e => ht e.symm))
  have hkY : ∀ k cs, Blk Y k 116 cs → Blk X2 k 116 cs := fun k cs hk => hk.grown hgr (own_blk_ne h2 hk (by decide))
  refine ⟨v', X2, hr, ⟨vs ++ [.slice wa r.w.length wc], ?_, ?_⟩, (hY.mono hB).grown hgr (Nat.le_trans hB hY.size) (fun k hk => (h2.lt k hk).1), hkeep⟩
  · rw [rowsC_snoc r _ hin.len, List.length_append]
    exact hown
  · exact InnerOk.snoc (own_blks hw hkY) (hin.keep fun k cs hk => hkeep k _ cs hk (by decide))

theorem OwnRs.sl {W : World} {B : Nat} {v : Value} {rs : List Rw} (h : OwnRs W B v rs) : ∃ a n c, v = .slice a n c ∧ n = rs.length := by
  obtain ⟨a, c, h⟩ := h.slice
  exact ⟨a, _, c, h, rfl⟩

/-! What is known of checked configurations. -/
theorem chkDrs_ok : ∀ {l : List Dr}, chkDrs l = 0 → ∀ d ∈ l, 0 ≤ d.mode ∧ d.mode ≤ 2 ∧ chkRus d.rus = 0
  | [], _, d, hd => by simp at hd
  | x :: l, h, d, hd => by
    have h : (if x.mode < 0 ∨ 2 < x.mode then 10 else if chkRus x.rus = 0 then chkDrs l else chkRus x.rus) = 0 := h
    by_cases h1 : x.mode < 0 ∨ 2 < x.mode
    · rw [if_pos h1] at h; cases h
    · rw [if_neg h1] at h
      by_cases h2 : chkRus x.rus = 0
      · rw [if_pos h2] at h
        rcases List.mem_cons.1 hd with rfl | hd
        · exact ⟨by omega, by omega, h2⟩
        · exact chkDrs_ok h d hd
      · rw [if_neg h2] at h; exact absurd h h2
theorem chkRos_ok : ∀ {l : List Ro}, chkRos l = 0 → ∀ r ∈ l, 1 ≤ r.kind ∧ r.kind ≤ 4 ∧ r.seg.any badSeg = false
  | [], _, d, hd => by simp at hd
  | x :: l, h, d, hd => by
    have h : (if x.kind < 1 ∨ 4 < x.kind then 10 else if x.seg.any badSeg then 3 else chkRos l) = 0 := h
    by_cases h1 : x.kind < 1 ∨ 4 < x.kind
    · rw [if_pos h1] at h; cases h
    · rw [if_neg h1] at h
      cases h2 : x.seg.any badSeg with
      | true => rw [h2] at h; cases h
      | false =>
        rw [h2] at h
        rcases List.mem_cons.1 hd with rfl | hd
        · exact ⟨by omega, by omega, h2⟩
        · exact chkRos_ok h d hd
theorem checkP_ok {c : Cf} (h : checkP c = 0) : chkDrs c.dirs = 0 ∧ chkRos c.ros = 0 := by
  unfold checkP at h
  by_cases h1 : badCap c = true
  · rw [if_pos h1] at h; cases h
  · rw [if_neg h1] at h
    by_cases h2 : chkDrs c.dirs = 0
    · rw [if_pos h2] at h; exact ⟨h2, h⟩
    · rw [if_neg h2] at h; exact absurd h h2
theorem drop_at_l {α : Type} {l : List α} {k : Nat} {x : α} (h : l[k]? = some x) : l.drop k = x :: l.drop (k + 1) := by
  obtain ⟨hk, rfl⟩ := List.getElem?_eq_some_iff.1 h
  exact List.drop_eq_getElem_cons hk
/-- Rows so far: P, behind them Q. -/
def RwSt (w : World) (q : Nat) (cf : Array Value) (rs Q : List Rw) (v : Value) (W : World) : Prop :=
  ∃ P, OwnRs W w.heap.size v P ∧ P ++ Q = rs ∧ Below w.heap.size w W ∧ Blk W q 27 cf

attribute [-go_sem] Builtin.append_
set_option maxRecDepth 100000 in
set_option maxHeartbeats 16000000 in
theorem text_code (c : Cf) (hc : CfOk c) (hN : (cfRows c).length ≤ 100000) (hz : ∀ r ∈ cfRows c, r.w.length ≤ 100000 ∧ ∀ d ∈ r.w, d.t.size ≤ 100000) (hj : ∀ r ∈ c.ros, (Lib.join (r.seg.map (·.data.toList)) [47]).length ≤ 100000000)
    (v : Value) (w : World) (hv : CfIn w v c) (hT : Tabs w) (hm : MaxOk w) :
    Calls Tryz.prog 10 #[v] w fun e W => e = .returned (rtV (cfText c)) ∧ Below w.heap.size w W := by
  obtain ⟨dv, rv, rfl, hd0, hr0⟩ := hv
  have hv2 : CfIn w (.agg #[.int .i64 c.cap, .int .i64 c.lim, dv, rv]) c := ⟨dv, rv, rfl, hd0, hr0⟩
  obtain ⟨dA, dc, dus, rfl, _, hdl, hdA, hdE⟩ := hd0
  obtain ⟨rA, rc, rus, rfl, _, hrl, hrA, hrE⟩ := hr0
  obtain ⟨nd, hnd⟩ : ∃ n, n = c.dirs.length := ⟨_, rfl⟩
  obtain ⟨nr, hnr⟩ : ∃ n, n = c.ros.length := ⟨_, rfl⟩
  obtain ⟨cp, hcp⟩ : ∃ x, x = c.cap := ⟨_, rfl⟩
  obtain ⟨lm, hlm⟩ : ∃ x, x = c.lim := ⟨_, rfl⟩
  have hnd1 : nd ≤ 1000000 := by rw [hnd]; exact hc.dl
  have hnr1 : nr ≤ 1000000 := by rw [hnr]; exact hc.rl
  rw [← hnd, ← hnr, ← hcp, ← hlm] at hv2
  rw [← hnd] at hdA ⊢
  rw [← hnr] at hrA ⊢
  rw [← hcp, ← hlm]
  have hI1 : I64 cp := by rw [hcp]; exact hc.cap
  have hI2 : I64 lm := by rw [hlm]; exact hc.lim
  have h0 : Below w.heap.size w (w.alloc (.cells #[.int .i64 cp, .int .i64 lm, .slice dA nd dc, .slice rA nr rc] 27)) := gr_alloc (Below.refl _ _) _
  have h1 : Blk (w.alloc (.cells #[.int .i64 cp, .int .i64 lm, .slice dA nd dc, .slice rA nr rc] 27)) w.heap.size 27 #[.int .i64 cp, .int .i64 lm, .slice dA nd dc, .slice rA nr rc] := Blk.new _ _ _
  have hck := check_code c hc _ _ (hv2.below h0) (hT.below h0 (Nat.le_refl _))
  have HA := Lib.hid (And.intro hc (And.intro hdl (And.intro hdA (And.intro hdE (And.intro hrl (And.intro hrA (And.intro hrE (And.intro hnd (And.intro hnr (And.intro hcp hlm))))))))))
  have HB := Lib.hid (And.intro hT (And.intro hm (And.intro h0 (And.intro h1 (And.intro hz hj)))))
  obtain ⟨rs, hrs⟩ : ∃ rs, rs = cfRows c := ⟨_, rfl⟩
  rw [← hrs] at hN
  have HR := Lib.hid hrs
  clear hc hdl hdA hdE hrl hrA hrE hnd hnr hcp hlm hT hm h0 h1 hv2 hrs hz hj
  go_enter Tryz.func10, Tryz.ntmps10
  go_wp2_with (fail)
  refine hck.mono ?_
  rintro e W ⟨rfl, hbW⟩
  clear hck
  by_cases hcz : checkP c = 0
  case neg =>
    have hcb : (checkP c != 0) = true := bne_iff_ne.2 hcz
    have hres : rtV (cfText c) = .tuple #[.string ⟨#[]⟩, .int .i64 (checkP c)] := by
      unfold cfText
      rw [if_neg hcz]; rfl
    have G := Lib.hid (And.intro hbW hres)
    clear hbW hcz hres
    go_wp2_with (fail)
    go_ret2
    exact ⟨by rw [G.out.2]; rfl, gr_call HB.out.2.2.1 G.out.1⟩
  have hcb : (checkP c != 0) = false := by rw [hcz]; rfl
  have hres : rtV (cfText c) = rtV (textF (txR rs) []) := by
    unfold cfText
    rw [if_pos hcz, HR.out]
  have hb1 := gr_call HB.out.2.2.1 hbW
  have hx1 := HB.out.2.2.2.1.call hbW
  have hbw : w.heap.size ≤ W.heap.size := hb1.size
  have hTB := Lib.hid (HB.out.1.below hb1 (Nat.le_refl _))
  have hbx := Lib.hid hx1
  have H1 := Lib.hid (And.intro hb1 (And.intro (checkP_ok hcz) hres))
  clear hb1 hx1 hbW hcz hres
  go_wp2_with (fail)
  refine wp_region_lateX 12 [] (fun d x v => match d with
    | 21 => v = .iface 9 (.string ⟨#[99, 97, 112]⟩)
    | 22 => v = (.pointer (some ⟨w.heap.size, 0, none⟩))
    | 23 => v = .int .i64 cp
    | 24 => v = .iface 3 (.int .i64 cp)
    | 25 => ∃ g, v = .slice (some ⟨g, 0, none⟩) 2 2 ∧ Blk x g 20 #[.iface 9 (.string ⟨#[99, 97, 112]⟩), .iface 3 (.int .i64 cp)]
    | 26 => ∃ u, v = .agg #[.int .i64 0, u] ∧ x.ownsRow w.heap.size 116 3 u ([sCap, itoaT cp] : List ByteArray).length (wdsC (rowW [sCap, itoaT cp]).w)
    | 27 => v = .iface 9 (.string ⟨#[108, 105, 109, 105, 116]⟩)
    | 28 => v = (.pointer (some ⟨w.heap.size, 1, none⟩))
    | 29 => v = .int .i64 lm
    | 30 => v = .iface 3 (.int .i64 lm)
    | 31 => ∃ g, v = .slice (some ⟨g, 0, none⟩) 2 2 ∧ Blk x g 20 #[.iface 9 (.string ⟨#[108, 105, 109, 105, 116]⟩), .iface 3 (.int .i64 lm)]
    | 32 => ∃ u, v = .agg #[.int .i64 0, u] ∧ x.ownsRow w.heap.size 116 3 u ([sLimit, itoaT lm] : List ByteArray).length (wdsC (rowW [sLimit, itoaT lm]).w)
    | _ => v = .bool true) (by kernel_rfl) (by kernel_rfl) (by kernel_rfl) (by kernel_rfl) (by decide) ?stable ?dist ?steps ?fin
  case stable =>
    intro d x x' v hB h
    revert h
    split <;> intro h <;> first
      | exact h
      | (obtain ⟨u, h1, h2⟩ := h; exact ⟨u, h1, own_below h2 hB (Nat.le_refl _)⟩)
      | (obtain ⟨g, h1, h2⟩ := h; exact ⟨g, h1, h2.call hB⟩)
      | (obtain ⟨g, u, h1, h2, h3⟩ := h; exact ⟨g, u, h1, h2.call hB, own_below h3 hB (Nat.le_refl _)⟩)
  case dist =>
    intro d hd
    cases hd
  case steps =>
    refine ⟨?_, ?_⟩
    · intro a w' hB hsz hbase hdeps K hK
      obtain ⟨ev, hev⟩ : ∃ ev, ev = a.eval := ⟨_, rfl⟩
      have hec : ∀ v, ev (.const v) = v := fun v => by rw [hev]; rfl
      have hef : ∀ f, ev (.func f) = .func (.func f) #[] #[] := fun f => by rw [hev]; rfl
      rw [← hev] at hbase hdeps
      rw [if_pos (by kernel_rfl)]
      left
      refine step_val (v := .iface 9 (.string ⟨#[99, 97, 112]⟩)) (w' := w') ?_ (hK _ _ (Below.refl _ _) (by intro d hd; cases hd; exact rfl) (by intro d hd hm; cases hd; exact absurd hm (by decide)))
      rw [← hev]
      clear hK hdeps hbase hev
      simp only [execOp, hec, hef]
      go_simp
    refine ⟨?_, ?_⟩
    · intro a w' hB hsz hbase hdeps K hK
      obtain ⟨ev, hev⟩ : ∃ ev, ev = a.eval := ⟨_, rfl⟩
      have hec : ∀ v, ev (.const v) = v := fun v => by rw [hev]; rfl
      have hef : ∀ f, ev (.func f) = .func (.func f) #[] #[] := fun f => by rw [hev]; rfl
      rw [← hev] at hbase hdeps
      have b1 : ev (.tmp 1) = (.pointer (some ⟨w.heap.size, 0, none⟩)) := (hbase 1 (by kernel_rfl))
      rw [if_pos (by kernel_rfl)]
      left
      refine step_val (v := (.pointer (some ⟨w.heap.size, 0, none⟩))) (w' := w') ?_ (hK _ _ (Below.refl _ _) (by intro d hd; cases hd; exact rfl) (by intro d hd hm; cases hd; exact absurd hm (by decide)))
      rw [← hev]
      clear hK hdeps hbase hev
      simp only [execOp, hec, hef, b1]
      go_simp
    refine ⟨?_, ?_⟩
    · intro a w' hB hsz hbase hdeps K hK
      obtain ⟨ev, hev⟩ : ∃ ev, ev = a.eval := ⟨_, rfl⟩
      have hec : ∀ v, ev (.const v) = v := fun v => by rw [hev]; rfl
      have hef : ∀ f, ev (.func f) = .func (.func f) #[] #[] := fun f => by rw [hev]; rfl
      rw [← hev] at hbase hdeps
      have d22 : ev (.tmp 22) = (.pointer (some ⟨w.heap.size, 0, none⟩)) := hdeps 22 (of_decide_eq_true (by kernel_rfl))
      rw [if_pos (by kernel_rfl)]
      left
      have xb := hbx.out.call hB
      have x0 : w'.cell? ⟨w.heap.size, 0, none⟩ = some (.int .i64 cp) := xb.cell' (i := 0) rfl
      have x1 : w'.cell? ⟨w.heap.size, 1, none⟩ = some (.int .i64 lm) := xb.cell' (i := 1) rfl
      have xl := xb.lt
      clear xb
      refine step_val (v := .int .i64 cp) (w' := w') ?_ (hK _ _ (Below.refl _ _) (by intro d hd; cases hd; exact rfl) (by intro d hd hm; cases hd; exact absurd hm (by decide)))
      rw [← hev]
      clear hK hdeps hbase hev
      simp only [execOp, hec, hef, d22]
      go_simp
    refine ⟨?_, ?_⟩
    · intro a w' hB hsz hbase hdeps K hK
      obtain ⟨ev, hev⟩ : ∃ ev, ev = a.eval := ⟨_, rfl⟩
      have hec : ∀ v, ev (.const v) = v := fun v => by rw [hev]; rfl
      have hef : ∀ f, ev (.func f) = .func (.func f) #[] #[] := fun f => by rw [hev]; rfl
      rw [← hev] at hbase hdeps
      have d23 : ev (.tmp 23) = .int .i64 cp := hdeps 23 (of_decide_eq_true (by kernel_rfl))
      rw [if_pos (by kernel_rfl)]
      left
      refine step_val (v := .iface 3 (.int .i64 cp)) (w' := w') ?_ (hK _ _ (Below.refl _ _) (by intro d hd; cases hd; exact rfl) (by intro d hd hm; cases hd; exact absurd hm (by decide)))
      rw [← hev]
      clear hK hdeps hbase hev
      simp only [execOp, hec, hef, d23]
      go_simp
    refine ⟨?_, ?_⟩
    · intro a w' hB hsz hbase hdeps K hK
      obtain ⟨ev, hev⟩ : ∃ ev, ev = a.eval := ⟨_, rfl⟩
      have hec : ∀ v, ev (.const v) = v := fun v => by rw [hev]; rfl
      have hef : ∀ f, ev (.func f) = .func (.func f) #[] #[] := fun f => by rw [hev]; rfl
      rw [← hev] at hbase hdeps
      have d21 : ev (.tmp 21) = .iface 9 (.string ⟨#[99, 97, 112]⟩) := hdeps 21 (of_decide_eq_true (by kernel_rfl))
      have d24 : ev (.tmp 24) = .iface 3 (.int .i64 cp) := hdeps 24 (of_decide_eq_true (by kernel_rfl))
      rw [if_pos (by kernel_rfl)]
      left
      refine step_val (v := .slice (some ⟨w'.heap.size, 0, none⟩) 2 2) (w' := w'.alloc (.cells #[.iface 9 (.string ⟨#[99, 97, 112]⟩), .iface 3 (.int .i64 cp)] 20)) ?_ (hK _ _ (gr_alloc (Below.refl _ _) _) (by intro d hd; cases hd; exact ⟨_, rfl, Blk.new _ _ _⟩) (by intro d hd hm; cases hd; exact absurd hm (by decide)))
      rw [← hev]
      clear hK hdeps hbase hev
      simp only [execOp, hec, hef, d21, d24]
      go_simp
    refine ⟨?_, ?_⟩
    · intro a w' hB hsz hbase hdeps K hK
      obtain ⟨ev, hev⟩ : ∃ ev, ev = a.eval := ⟨_, rfl⟩
      have hec : ∀ v, ev (.const v) = v := fun v => by rw [hev]; rfl
      have hef : ∀ f, ev (.func f) = .func (.func f) #[] #[] := fun f => by rw [hev]; rfl
      rw [← hev] at hbase hdeps
      have d25 := hdeps 25 (of_decide_eq_true (by kernel_rfl))
      obtain ⟨g25, e25, h25⟩ := d25
      rw [if_pos (by kernel_rfl)]
      left
      refine step_enter (w' := w') (f := 35) (args := #[.slice (some ⟨g25, 0, none⟩) 2 2]) ?_ ?_
      · rw [← hev]
        clear hK hdeps hbase hev
        simp only [execOp, hec, hef, e25]
        go_simp
      · refine (words_at [.s sCap, .n cp] [sCap, itoaT cp] (by rfl) (Nat.le_of_ble_eq_true rfl) (okI hI1) g25 20 2 w.heap.size w' (hTB.out.below hB (Nat.le_refl _)) h25 (Nat.le_trans hbw hB.size)).mono ?_
        rintro e W ⟨u, rfl, hown, hb⟩
        exact ⟨_, rfl, hK _ _ hb (by intro d hd; cases hd; exact ⟨u, rfl, hown⟩) (by intro d hd hm; cases hd; exact absurd hm (by decide))⟩
    refine ⟨?_, ?_⟩
    · intro a w' hB hsz hbase hdeps K hK
      obtain ⟨ev, hev⟩ : ∃ ev, ev = a.eval := ⟨_, rfl⟩
      have hec : ∀ v, ev (.const v) = v := fun v => by rw [hev]; rfl
      have hef : ∀ f, ev (.func f) = .func (.func f) #[] #[] := fun f => by rw [hev]; rfl
      rw [← hev] at hbase hdeps
      rw [if_pos (by kernel_rfl)]
      left
      refine step_val (v := .iface 9 (.string ⟨#[108, 105, 109, 105, 116]⟩)) (w' := w') ?_ (hK _ _ (Below.refl _ _) (by intro d hd; cases hd; exact rfl) (by intro d hd hm; cases hd; exact absurd hm (by decide)))
      rw [← hev]
      clear hK hdeps hbase hev
      simp only [execOp, hec, hef]
      go_simp
    refine ⟨?_, ?_⟩
    · intro a w' hB hsz hbase hdeps K hK
      obtain ⟨ev, hev⟩ : ∃ ev, ev = a.eval := ⟨_, rfl⟩
      have hec : ∀ v, ev (.const v) = v := fun v => by rw [hev]; rfl
      have hef : ∀ f, ev (.func f) = .func (.func f) #[] #[] := fun f => by rw [hev]; rfl
      rw [← hev] at hbase hdeps
      have b1 : ev (.tmp 1) = (.pointer (some ⟨w.heap.size, 0, none⟩)) := (hbase 1 (by kernel_rfl))
      rw [if_pos (by kernel_rfl)]
      left
      refine step_val (v := (.pointer (some ⟨w.heap.size, 1, none⟩))) (w' := w') ?_ (hK _ _ (Below.refl _ _) (by intro d hd; cases hd; exact rfl) (by intro d hd hm; cases hd; exact absurd hm (by decide)))
      rw [← hev]
      clear hK hdeps hbase hev
      simp only [execOp, hec, hef, b1]
      go_simp
    refine ⟨?_, ?_⟩
    · intro a w' hB hsz hbase hdeps K hK
      obtain ⟨ev, hev⟩ : ∃ ev, ev = a.eval := ⟨_, rfl⟩
      have hec : ∀ v, ev (.const v) = v := fun v => by rw [hev]; rfl
      have hef : ∀ f, ev (.func f) = .func (.func f) #[] #[] := fun f => by rw [hev]; rfl
      rw [← hev] at hbase hdeps
      have d28 : ev (.tmp 28) = (.pointer (some ⟨w.heap.size, 1, none⟩)) := hdeps 28 (of_decide_eq_true (by kernel_rfl))
      rw [if_pos (by kernel_rfl)]
      left
      have xb := hbx.out.call hB
      have x0 : w'.cell? ⟨w.heap.size, 0, none⟩ = some (.int .i64 cp) := xb.cell' (i := 0) rfl
      have x1 : w'.cell? ⟨w.heap.size, 1, none⟩ = some (.int .i64 lm) := xb.cell' (i := 1) rfl
      have xl := xb.lt
      clear xb
      refine step_val (v := .int .i64 lm) (w' := w') ?_ (hK _ _ (Below.refl _ _) (by intro d hd; cases hd; exact rfl) (by intro d hd hm; cases hd; exact absurd hm (by decide)))
      rw [← hev]
      clear hK hdeps hbase hev
      simp only [execOp, hec, hef, d28]
      go_simp
    refine ⟨?_, ?_⟩
    · intro a w' hB hsz hbase hdeps K hK
      obtain ⟨ev, hev⟩ : ∃ ev, ev = a.eval := ⟨_, rfl⟩
      have hec : ∀ v, ev (.const v) = v := fun v => by rw [hev]; rfl
      have hef : ∀ f, ev (.func f) = .func (.func f) #[] #[] := fun f => by rw [hev]; rfl
      rw [← hev] at hbase hdeps
      have d29 : ev (.tmp 29) = .int .i64 lm := hdeps 29 (of_decide_eq_true (by kernel_rfl))
      rw [if_pos (by kernel_rfl)]
      left
      refine step_val (v := .iface 3 (.int .i64 lm)) (w' := w') ?_ (hK _ _ (Below.refl _ _) (by intro d hd; cases hd; exact rfl) (by intro d hd hm; cases hd; exact absurd hm (by decide)))
      rw [← hev]
      clear hK hdeps hbase hev
      simp only [execOp, hec, hef, d29]
      go_simp
    refine ⟨?_, ?_⟩
    · intro a w' hB hsz hbase hdeps K hK
      obtain ⟨ev, hev⟩ : ∃ ev, ev = a.eval := ⟨_, rfl⟩
      have hec : ∀ v, ev (.const v) = v := fun v => by rw [hev]; rfl
      have hef : ∀ f, ev (.func f) = .func (.func f) #[] #[] := fun f => by rw [hev]; rfl
      rw [← hev] at hbase hdeps
      have d27 : ev (.tmp 27) = .iface 9 (.string ⟨#[108, 105, 109, 105, 116]⟩) := hdeps 27 (of_decide_eq_true (by kernel_rfl))
      have d30 : ev (.tmp 30) = .iface 3 (.int .i64 lm) := hdeps 30 (of_decide_eq_true (by kernel_rfl))
      rw [if_pos (by kernel_rfl)]
      left
      refine step_val (v := .slice (some ⟨w'.heap.size, 0, none⟩) 2 2) (w' := w'.alloc (.cells #[.iface 9 (.string ⟨#[108, 105, 109, 105, 116]⟩), .iface 3 (.int .i64 lm)] 20)) ?_ (hK _ _ (gr_alloc (Below.refl _ _) _) (by intro d hd; cases hd; exact ⟨_, rfl, Blk.new _ _ _⟩) (by intro d hd hm; cases hd; exact absurd hm (by decide)))
      rw [← hev]
      clear hK hdeps hbase hev
      simp only [execOp, hec, hef, d27, d30]
      go_simp
    refine ⟨?_, ?_⟩
    · intro a w' hB hsz hbase hdeps K hK
      obtain ⟨ev, hev⟩ : ∃ ev, ev = a.eval := ⟨_, rfl⟩
      have hec : ∀ v, ev (.const v) = v := fun v => by rw [hev]; rfl
      have hef : ∀ f, ev (.func f) = .func (.func f) #[] #[] := fun f => by rw [hev]; rfl
      rw [← hev] at hbase hdeps
      have d31 := hdeps 31 (of_decide_eq_true (by kernel_rfl))
      obtain ⟨g31, e31, h31⟩ := d31
      rw [if_pos (by kernel_rfl)]
      left
      refine step_enter (w' := w') (f := 35) (args := #[.slice (some ⟨g31, 0, none⟩) 2 2]) ?_ ?_
      · rw [← hev]
        clear hK hdeps hbase hev
        simp only [execOp, hec, hef, e31]
        go_simp
      · refine (words_at [.s sLimit, .n lm] [sLimit, itoaT lm] (by rfl) (Nat.le_of_ble_eq_true rfl) (okI hI2) g31 20 2 w.heap.size w' (hTB.out.below hB (Nat.le_refl _)) h31 (Nat.le_trans hbw hB.size)).mono ?_
        rintro e W ⟨u, rfl, hown, hb⟩
        exact ⟨_, rfl, hK _ _ hb (by intro d hd; cases hd; exact ⟨u, rfl, hown⟩) (by intro d hd hm; cases hd; exact absurd hm (by decide))⟩
    exact trivial
  case fin =>
    intro a X hB hsz hdef hbase hS _
    have v21 : a.eval (.tmp 21) = .iface 9 (.string ⟨#[99, 97, 112]⟩) := hS _ (List.mem_of_getElem? (i := 0) rfl) 21 rfl
    have v22 : a.eval (.tmp 22) = (.pointer (some ⟨w.heap.size, 0, none⟩)) := hS _ (List.mem_of_getElem? (i := 1) rfl) 22 rfl
    have v23 : a.eval (.tmp 23) = .int .i64 cp := hS _ (List.mem_of_getElem? (i := 2) rfl) 23 rfl
    have v24 : a.eval (.tmp 24) = .iface 3 (.int .i64 cp) := hS _ (List.mem_of_getElem? (i := 3) rfl) 24 rfl
    obtain ⟨y25, v25, q25⟩ := hS _ (List.mem_of_getElem? (i := 4) rfl) 25 rfl
    obtain ⟨y26, v26, q26⟩ := hS _ (List.mem_of_getElem? (i := 5) rfl) 26 rfl
    have v27 : a.eval (.tmp 27) = .iface 9 (.string ⟨#[108, 105, 109, 105, 116]⟩) := hS _ (List.mem_of_getElem? (i := 6) rfl) 27 rfl
    have v28 : a.eval (.tmp 28) = (.pointer (some ⟨w.heap.size, 1, none⟩)) := hS _ (List.mem_of_getElem? (i := 7) rfl) 28 rfl
    have v29 : a.eval (.tmp 29) = .int .i64 lm := hS _ (List.mem_of_getElem? (i := 8) rfl) 29 rfl
    have v30 : a.eval (.tmp 30) = .iface 3 (.int .i64 lm) := hS _ (List.mem_of_getElem? (i := 9) rfl) 30 rfl
    obtain ⟨y31, v31, q31⟩ := hS _ (List.mem_of_getElem? (i := 10) rfl) 31 rfl
    obtain ⟨y32, v32, q32⟩ := hS _ (List.mem_of_getElem? (i := 11) rfl) 32 rfl
    have ha := act_overX [(21, .iface 9 (.string ⟨#[99, 97, 112]⟩)), (22, (.pointer (some ⟨w.heap.size, 0, none⟩))), (23, .int .i64 cp), (24, .iface 3 (.int .i64 cp)), (25, .slice (some ⟨y25, 0, none⟩) 2 2), (26, .agg #[.int .i64 0, y26]), (27, .iface 9 (.string ⟨#[108, 105, 109, 105, 116]⟩)), (28, (.pointer (some ⟨w.heap.size, 1, none⟩))), (29, .int .i64 lm), (30, .iface 3 (.int .i64 lm)), (31, .slice (some ⟨y31, 0, none⟩) 2 2), (32, .agg #[.int .i64 0, y32])] hsz hdef hbase (by kernel_rfl) ⟨v21, v22, v23, v24, v25, v26, v27, v28, v29, v30, v31, v32, trivial⟩
    clear hsz hdef hbase hS v21 v22 v23 v24 v25 v26 v27 v28 v29 v30 v31 v32
    subst ha
    simp only [List.drop, putAll]
    simp (config := {decide := false}) only [Act.put, List.setIfInBounds_toArray, List.set_cons_zero, List.set_cons_succ]

    obtain ⟨a26, b26, rfl⟩ := own_slice q26
    obtain ⟨a32, b32, rfl⟩ := own_slice q32
    obtain ⟨V, hV⟩ : ∃ V, V = X.alloc (.cells #[.int .i64 0, .slice a26 2 b26, .int .i64 0, .slice a32 2 b32] 77) := ⟨_, rfl⟩
    have hXV : Below X.heap.size X V := by rw [hV]; exact gr_alloc (Below.refl _ _) _
    have hbV := (gr_call H1.out.1 hB).trans (hXV.mono (gr_call H1.out.1 hB).size)
    have hxV := (hbx.out.call hB).call hXV
    have x2 : (X.alloc (.cells #[.int .i64 0, .slice a26 2 b26, .int .i64 0, .slice a32 2 b32] 77)).cell? ⟨w.heap.size, 2, none⟩ = some (.slice dA nd dc) := by rw [← hV]; exact hxV.cell' (i := 2) rfl
    have xl := hxV.lt
    have hrows : RwSt w w.heap.size #[.int .i64 cp, .int .i64 lm, .slice dA nd dc, .slice rA nr rc] rs (c.dirs.flatMap drRows ++ c.ros.map roRow) (.slice (some ⟨X.heap.size, 0, none⟩) 2 2) V := by
      refine ⟨[rowW [sCap, itoaT cp], rowW [sLimit, itoaT lm]], ⟨[.slice a26 2 b26, .slice a32 2 b32], ?_, ?_⟩, ?_, hbV, hxV⟩
      · rw [hV]
        exact World.ownsRow_lit X #[.int .i64 0, .slice a26 2 b26, .int .i64 0, .slice a32 2 b32] 2 (gr_call H1.out.1 hB).size (by decide) rfl
      · exact ⟨own_below q26 hXV (Nat.le_refl _), own_below q32 hXV (Nat.le_refl _), trivial⟩
      · rw [HR.out, HA.out.2.2.2.2.2.2.2.2.2.1, HA.out.2.2.2.2.2.2.2.2.2.2]; rfl
    have G := Lib.hid (And.intro hrows hV)
    clear hB q26 q32 q25 q31 hrows hXV hbV hxV hV
    go_wp2_with (fail)
    generalize X.alloc (.cells #[.int .i64 0, .slice a26 2 b26, .int .i64 0, .slice a32 2 b32] 77) = VV at G x2 xl ⊢
    obtain ⟨u5, hu5⟩ : ∃ u, u = Value.slice (some ⟨X.heap.size, 0, none⟩) 2 2 := ⟨_, rfl⟩
    rw [← hu5] at G ⊢
    have G := Lib.hid (show RwSt w w.heap.size #[.int .i64 cp, .int .i64 lm, .slice dA nd dc, .slice rA nr rc] rs (c.dirs.flatMap drRows ++ c.ros.map roRow) u5 VV by have := G.out; rw [this.2] at this; exact this.1)
    clear hu5 x2 xl
    go_loopg [5, 37] nd (fun m rv iv wr => ∃ k : Nat, m = nd - k ∧ k ≤ nd ∧ iv = .int .i64 (k : Int) ∧ RwSt w w.heap.size #[.int .i64 cp, .int .i64 lm, .slice dA nd dc, .slice rA nr rc] rs ((c.dirs.drop k).flatMap drRows ++ c.ros.map roRow) rv wr)
    case atStart => exact ⟨0, rfl, Nat.zero_le _, rfl, G.out⟩
    case round =>
      obtain ⟨k, hm, hk, rfl, P, hP, hPr, hbel, hbc⟩ := hrel
      have hbw := hbel.size
      by_cases hlt : k < nd
      · have hii : (k : Int) < nd := by omega
        obtain ⟨ab, ao, d, u, rfl, hab, hd, hu, c0, c1, c2⟩ := cells_dr (HA.out.2.2.1.below hbel) HA.out.2.2.2.2.2.2.2.1 HA.out.2.1 hlt
        have hdm := List.mem_of_getElem? hd
        have hdo := HA.out.1.dirs d hdm
        obtain ⟨hm0, hm2, hru⟩ := chkDrs_ok H1.out.2.1.1 d hdm
        obtain ⟨md, hmd⟩ : ∃ m : Nat, d.mode = (m : Int) := ⟨d.mode.toNat, by omega⟩
        have hmd3 : md < 3 := by omega
        obtain ⟨uA, uc, uus, rfl, _, hul, huA, huE⟩ := HA.out.2.2.2.1 k d u hd hu
        obtain ⟨nj, hnj⟩ : ∃ n, n = d.rus.length := ⟨_, rfl⟩
        rw [← hnj] at huA c2
        rw [hmd] at c1
        have hnj1 : nj ≤ 1000000 := by rw [hnj]; exact hdo.len
        obtain ⟨pth, hpth⟩ : ∃ p, p = d.path := ⟨_, rfl⟩
        rw [← hpth] at c0
        obtain ⟨ms, hms0⟩ : ∃ s, s = modesL.getD md ⟨#[]⟩ := ⟨_, rfl⟩
        have hms := Lib.hid (show (#[Value.string ⟨#[97, 108, 111, 110, 101]⟩, .string ⟨#[98, 101, 102, 111, 114, 101]⟩, .string ⟨#[97, 102, 116, 101, 114]⟩] : Array Value)[md]? = some (.string ms) by
          rw [hms0]
          match md, hmd3 with
          | 0, _ => rfl
          | 1, _ => rfl
          | 2, _ => rfl)
        have hdrow : drRows d = rowW [sDir, pth, ms] :: d.rus.flatMap ruRows := by
          unfold drRows
          rw [hpth, hms0, hmd]; rfl
        have hbo : Below wr.heap.size wr (wr.alloc (.cells #[.string pth, .int .i64 (md : Int), .slice uA nj uc] 48)) := gr_alloc (Below.refl _ _) _
        have hbx := Lib.hid (show Blk (wr.alloc (.cells #[.string pth, .int .i64 (md : Int), .slice uA nj uc] 48)) wr.heap.size 48 #[.string pth, .int .i64 (md : Int), .slice uA nj uc] from Blk.new _ _ _)
        have hPw : P ++ (rowW [sDir, pth, ms] :: (d.rus.flatMap ruRows ++ ((c.dirs.drop (k + 1)).flatMap drRows ++ c.ros.map roRow))) = rs := by
          rw [drop_at_l hd, List.flatMap_cons, hdrow] at hPr
          simpa using hPr
        have hPl : P.length ≤ 1000000000 := by have := congrArg List.length hPw; rw [List.length_append] at this; omega
        have hTB := Lib.hid ((HB.out.1.below hbel (Nat.le_refl _)).below hbo (Nat.le_refl _))
        obtain ⟨va, vc, rfl⟩ := hP.slice
        obtain ⟨vn, hvn⟩ : ∃ n, n = P.length := ⟨_, rfl⟩
        have F := Lib.hid (And.intro hm (And.intro (hP.below hbo) (And.intro hPw (And.intro (gr_call hbel hbo) (And.intro (hbc.call hbo) (And.intro hvn (And.intro huA (And.intro huE (And.intro hul (And.intro hnj hdo))))))))))
        have hbwo := (gr_call hbel hbo).size
        have F2 := Lib.hid (And.intro hbel (And.intro hbo hru))
        have hvn' := hvn.symm
        have hbw := hbwo
        have hmdI : (md : Int) < 3 := by omega
        have hmdJ : ¬ 3 ≤ (md : Int) := by omega
        rw [← hvn]
        clear hm hP hPr hbel hbc hd hu hdm hdo hm0 hm2 hru huA huE hms0 hdrow hbo hPw hvn hpth hmd hnj hul
        go_wp2_with (fail)
        refine wp_region_lateX 14 [] (fun d x v => match d with
          | 41 => v = .slice va vn vc
          | 42 => v = .iface 9 (.string ⟨#[100, 105, 114]⟩)
          | 43 => v = (.pointer (some ⟨wr.heap.size, 0, none⟩))
          | 44 => v = .string pth
          | 45 => v = .iface 9 (.string pth)
          | 46 => ∃ g, v = .slice (some ⟨g, 0, none⟩) 3 3 ∧ Blk x g 9 #[.string ⟨#[97, 108, 111, 110, 101]⟩, .string ⟨#[98, 101, 102, 111, 114, 101]⟩, .string ⟨#[97, 102, 116, 101, 114]⟩]
          | 47 => v = (.pointer (some ⟨wr.heap.size, 1, none⟩))
          | 48 => v = .int .i64 (md : Int)
          | 49 => ∃ g, v = .pointer (some ⟨g, md, none⟩) ∧ Blk x g 9 #[.string ⟨#[97, 108, 111, 110, 101]⟩, .string ⟨#[98, 101, 102, 111, 114, 101]⟩, .string ⟨#[97, 102, 116, 101, 114]⟩]
          | 50 => v = .string ms
          | 51 => v = .iface 9 (.string ms)
          | 52 => ∃ g, v = .slice (some ⟨g, 0, none⟩) 3 3 ∧ Blk x g 20 #[.iface 9 (.string ⟨#[100, 105, 114]⟩), .iface 9 (.string pth), .iface 9 (.string ms)]
          | 53 => ∃ u, v = .agg #[.int .i64 0, u] ∧ x.ownsRow w.heap.size 116 3 u ([sDir, pth, ms] : List ByteArray).length (wdsC (rowW [sDir, pth, ms]).w)
          | 54 => ∃ g u, v = .slice (some ⟨g, 0, none⟩) 1 1 ∧ Blk x g 77 #[.int .i64 0, u] ∧ x.ownsRow w.heap.size 116 3 u ([sDir, pth, ms] : List ByteArray).length (wdsC (rowW [sDir, pth, ms]).w)
          | _ => v = .bool true) (by kernel_rfl) (by kernel_rfl) (by kernel_rfl) (by kernel_rfl) (by decide) ?stable ?dist ?steps ?fin
        case stable =>
          intro d x x' v hB h
          revert h
          split <;> intro h <;> first
            | exact h
            | (obtain ⟨u, h1, h2⟩ := h; exact ⟨u, h1, own_below h2 hB (Nat.le_refl _)⟩)
            | (obtain ⟨g, h1, h2⟩ := h; exact ⟨g, h1, h2.call hB⟩)
            | (obtain ⟨g, u, h1, h2, h3⟩ := h; exact ⟨g, u, h1, h2.call hB, own_below h3 hB (Nat.le_refl _)⟩)
        case dist =>
          intro d hd
          cases hd
        case steps =>
          refine ⟨?_, ?_⟩
          · intro a w' hB hsz hbase hdeps K hK
            obtain ⟨ev, hev⟩ : ∃ ev, ev = a.eval := ⟨_, rfl⟩
            have hec : ∀ v, ev (.const v) = v := fun v => by rw [hev]; rfl
            have hef : ∀ f, ev (.func f) = .func (.func f) #[] #[] := fun f => by rw [hev]; rfl
            rw [← hev] at hbase hdeps
            have b5 : ev (.tmp 5) = .slice va vn vc := (hbase 5 (by kernel_rfl))
            rw [if_pos (by kernel_rfl)]
            left
            refine step_val (v := .slice va vn vc) (w' := w') ?_ (hK _ _ (Below.refl _ _) (by intro d hd; cases hd; exact rfl) (by intro d hd hm; cases hd; exact absurd hm (by decide)))
            rw [← hev]
            clear hK hdeps hbase hev
            simp only [execOp, hec, hef, b5]
            go_simp
          refine ⟨?_, ?_⟩
          · intro a w' hB hsz hbase hdeps K hK
            obtain ⟨ev, hev⟩ : ∃ ev, ev = a.eval := ⟨_, rfl⟩
            have hec : ∀ v, ev (.const v) = v := fun v => by rw [hev]; rfl
            have hef : ∀ f, ev (.func f) = .func (.func f) #[] #[] := fun f => by rw [hev]; rfl
            rw [← hev] at hbase hdeps
            rw [if_pos (by kernel_rfl)]
            left
            refine step_val (v := .iface 9 (.string ⟨#[100, 105, 114]⟩)) (w' := w') ?_ (hK _ _ (Below.refl _ _) (by intro d hd; cases hd; exact rfl) (by intro d hd hm; cases hd; exact absurd hm (by decide)))
            rw [← hev]
            clear hK hdeps hbase hev
            simp only [execOp, hec, hef]
            go_simp
          refine ⟨?_, ?_⟩
          · intro a w' hB hsz hbase hdeps K hK
            obtain ⟨ev, hev⟩ : ∃ ev, ev = a.eval := ⟨_, rfl⟩
            have hec : ∀ v, ev (.const v) = v := fun v => by rw [hev]; rfl
            have hef : ∀ f, ev (.func f) = .func (.func f) #[] #[] := fun f => by rw [hev]; rfl
            rw [← hev] at hbase hdeps
            have b7 : ev (.tmp 7) = (.pointer (some ⟨wr.heap.size, 0, none⟩)) := (hbase 7 (by kernel_rfl))
            rw [if_pos (by kernel_rfl)]
            left
            refine step_val (v := (.pointer (some ⟨wr.heap.size, 0, none⟩))) (w' := w') ?_ (hK _ _ (Below.refl _ _) (by intro d hd; cases hd; exact rfl) (by intro d hd hm; cases hd; exact absurd hm (by decide)))
            rw [← hev]
            clear hK hdeps hbase hev
            simp only [execOp, hec, hef, b7]
            go_simp
          refine ⟨?_, ?_⟩
          · intro a w' hB hsz hbase hdeps K hK
            obtain ⟨ev, hev⟩ : ∃ ev, ev = a.eval := ⟨_, rfl⟩
            have hec : ∀ v, ev (.const v) = v := fun v => by rw [hev]; rfl
            have hef : ∀ f, ev (.func f) = .func (.func f) #[] #[] := fun f => by rw [hev]; rfl
            rw [← hev] at hbase hdeps
            have d43 : ev (.tmp 43) = (.pointer (some ⟨wr.heap.size, 0, none⟩)) := hdeps 43 (of_decide_eq_true (by kernel_rfl))
            rw [if_pos (by kernel_rfl)]
            left
            have xb := hbx.out.call hB
            have x0 : w'.cell? ⟨wr.heap.size, 0, none⟩ = some (.string pth) := xb.cell' (i := 0) rfl
            have x1 : w'.cell? ⟨wr.heap.size, 1, none⟩ = some (.int .i64 (md : Int)) := xb.cell' (i := 1) rfl
            have xl := xb.lt
            clear xb
            refine step_val (v := .string pth) (w' := w') ?_ (hK _ _ (Below.refl _ _) (by intro d hd; cases hd; exact rfl) (by intro d hd hm; cases hd; exact absurd hm (by decide)))
            rw [← hev]
            clear hK hdeps hbase hev
            simp only [execOp, hec, hef, d43]
            go_simp
          refine ⟨?_, ?_⟩
          · intro a w' hB hsz hbase hdeps K hK
            obtain ⟨ev, hev⟩ : ∃ ev, ev = a.eval := ⟨_, rfl⟩
            have hec : ∀ v, ev (.const v) = v := fun v => by rw [hev]; rfl
            have hef : ∀ f, ev (.func f) = .func (.func f) #[] #[] := fun f => by rw [hev]; rfl
            rw [← hev] at hbase hdeps
            have d44 : ev (.tmp 44) = .string pth := hdeps 44 (of_decide_eq_true (by kernel_rfl))
            rw [if_pos (by kernel_rfl)]
            left
            refine step_val (v := .iface 9 (.string pth)) (w' := w') ?_ (hK _ _ (Below.refl _ _) (by intro d hd; cases hd; exact rfl) (by intro d hd hm; cases hd; exact absurd hm (by decide)))
            rw [← hev]
            clear hK hdeps hbase hev
            simp only [execOp, hec, hef, d44]
            go_simp
          refine ⟨?_, ?_⟩
          · intro a w' hB hsz hbase hdeps K hK
            obtain ⟨ev, hev⟩ : ∃ ev, ev = a.eval := ⟨_, rfl⟩
            have hec : ∀ v, ev (.const v) = v := fun v => by rw [hev]; rfl
            have hef : ∀ f, ev (.func f) = .func (.func f) #[] #[] := fun f => by rw [hev]; rfl
            rw [← hev] at hbase hdeps
            rw [if_pos (by kernel_rfl)]
            left
            refine step_enter (w' := w') (f := 36) (args := #[]) ?_ ?_
            · rw [← hev]
              clear hK hdeps hbase hev
              simp only [execOp, hec, hef]
              go_simp
            · refine (modes_code w').mono ?_
              rintro e W ⟨rfl, rfl⟩
              exact ⟨_, rfl, hK _ _ (gr_alloc (Below.refl _ _) _) (by intro d hd; cases hd; exact ⟨_, rfl, Blk.new _ _ _⟩) (by intro d hd hm; cases hd; exact absurd hm (by decide))⟩
          refine ⟨?_, ?_⟩
          · intro a w' hB hsz hbase hdeps K hK
            obtain ⟨ev, hev⟩ : ∃ ev, ev = a.eval := ⟨_, rfl⟩
            have hec : ∀ v, ev (.const v) = v := fun v => by rw [hev]; rfl
            have hef : ∀ f, ev (.func f) = .func (.func f) #[] #[] := fun f => by rw [hev]; rfl
            rw [← hev] at hbase hdeps
            have b7 : ev (.tmp 7) = (.pointer (some ⟨wr.heap.size, 0, none⟩)) := (hbase 7 (by kernel_rfl))
            rw [if_pos (by kernel_rfl)]
            left
            refine step_val (v := (.pointer (some ⟨wr.heap.size, 1, none⟩))) (w' := w') ?_ (hK _ _ (Below.refl _ _) (by intro d hd; cases hd; exact rfl) (by intro d hd hm; cases hd; exact absurd hm (by decide)))
            rw [← hev]
            clear hK hdeps hbase hev
            simp only [execOp, hec, hef, b7]
            go_simp
          refine ⟨?_, ?_⟩
          · intro a w' hB hsz hbase hdeps K hK
            obtain ⟨ev, hev⟩ : ∃ ev, ev = a.eval := ⟨_, rfl⟩
            have hec : ∀ v, ev (.const v) = v := fun v => by rw [hev]; rfl
            have hef : ∀ f, ev (.func f) = .func (.func f) #[] #[] := fun f => by rw [hev]; rfl
            rw [← hev] at hbase hdeps
            have d47 : ev (.tmp 47) = (.pointer (some ⟨wr.heap.size, 1, none⟩)) := hdeps 47 (of_decide_eq_true (by kernel_rfl))
            rw [if_pos (by kernel_rfl)]
            left
            have xb := hbx.out.call hB
            have x0 : w'.cell? ⟨wr.heap.size, 0, none⟩ = some (.string pth) := xb.cell' (i := 0) rfl
            have x1 : w'.cell? ⟨wr.heap.size, 1, none⟩ = some (.int .i64 (md : Int)) := xb.cell' (i := 1) rfl
            have xl := xb.lt
            clear xb
            refine step_val (v := .int .i64 (md : Int)) (w' := w') ?_ (hK _ _ (Below.refl _ _) (by intro d hd; cases hd; exact rfl) (by intro d hd hm; cases hd; exact absurd hm (by decide)))
            rw [← hev]
            clear hK hdeps hbase hev
            simp only [execOp, hec, hef, d47]
            go_simp
          refine ⟨?_, ?_⟩
          · intro a w' hB hsz hbase hdeps K hK
            obtain ⟨ev, hev⟩ : ∃ ev, ev = a.eval := ⟨_, rfl⟩
            have hec : ∀ v, ev (.const v) = v := fun v => by rw [hev]; rfl
            have hef : ∀ f, ev (.func f) = .func (.func f) #[] #[] := fun f => by rw [hev]; rfl
            rw [← hev] at hbase hdeps
            obtain ⟨g46, e46, h46⟩ := hdeps 46 (of_decide_eq_true (by kernel_rfl))
            have di : ev (.tmp 48) = .int .i64 (md : Int) := hdeps 48 (of_decide_eq_true (by kernel_rfl))
            rw [if_pos (by kernel_rfl)]
            left
            have hbl := h46.lt
            refine step_val (v := .pointer (some ⟨g46, md, none⟩)) (w' := w') ?_ (hK _ _ (Below.refl _ _) (by intro d hd; cases hd; exact ⟨_, rfl, h46⟩) (by intro d hd hm; cases hd; exact absurd hm (by decide)))
            rw [← hev]
            clear hK hdeps hbase hev
            simp only [execOp, hec, hef, e46, di]
            go_simp
          refine ⟨?_, ?_⟩
          · intro a w' hB hsz hbase hdeps K hK
            obtain ⟨ev, hev⟩ : ∃ ev, ev = a.eval := ⟨_, rfl⟩
            have hec : ∀ v, ev (.const v) = v := fun v => by rw [hev]; rfl
            have hef : ∀ f, ev (.func f) = .func (.func f) #[] #[] := fun f => by rw [hev]; rfl
            rw [← hev] at hbase hdeps
            have d49 := hdeps 49 (of_decide_eq_true (by kernel_rfl))
            obtain ⟨g49, e49, h49⟩ := d49
            rw [if_pos (by kernel_rfl)]
            left
            have xb := hbx.out.call hB
            have x0 : w'.cell? ⟨wr.heap.size, 0, none⟩ = some (.string pth) := xb.cell' (i := 0) rfl
            have x1 : w'.cell? ⟨wr.heap.size, 1, none⟩ = some (.int .i64 (md : Int)) := xb.cell' (i := 1) rfl
            have xl := xb.lt
            clear xb
            have xm : w'.cell? ⟨g49, md, none⟩ = some (.string ms) := h49.cell' hms.out
            refine step_val (v := .string ms) (w' := w') ?_ (hK _ _ (Below.refl _ _) (by intro d hd; cases hd; exact rfl) (by intro d hd hm; cases hd; exact absurd hm (by decide)))
            rw [← hev]
            clear hK hdeps hbase hev
            simp only [execOp, hec, hef, e49]
            go_simp
          refine ⟨?_, ?_⟩
          · intro a w' hB hsz hbase hdeps K hK
            obtain ⟨ev, hev⟩ : ∃ ev, ev = a.eval := ⟨_, rfl⟩
            have hec : ∀ v, ev (.const v) = v := fun v => by rw [hev]; rfl
            have hef : ∀ f, ev (.func f) = .func (.func f) #[] #[] := fun f => by rw [hev]; rfl
            rw [← hev] at hbase hdeps
            have d50 : ev (.tmp 50) = .string ms := hdeps 50 (of_decide_eq_true (by kernel_rfl))
            rw [if_pos (by kernel_rfl)]
            left
            refine step_val (v := .iface 9 (.string ms)) (w' := w') ?_ (hK _ _ (Below.refl _ _) (by intro d hd; cases hd; exact rfl) (by intro d hd hm; cases hd; exact absurd hm (by decide)))
            rw [← hev]
            clear hK hdeps hbase hev
            simp only [execOp, hec, hef, d50]
            go_simp
          refine ⟨?_, ?_⟩
          · intro a w' hB hsz hbase hdeps K hK
            obtain ⟨ev, hev⟩ : ∃ ev, ev = a.eval := ⟨_, rfl⟩
            have hec : ∀ v, ev (.const v) = v := fun v => by rw [hev]; rfl
            have hef : ∀ f, ev (.func f) = .func (.func f) #[] #[] := fun f => by rw [hev]; rfl
            rw [← hev] at hbase hdeps
            have d42 : ev (.tmp 42) = .iface 9 (.string ⟨#[100, 105, 114]⟩) := hdeps 42 (of_decide_eq_true (by kernel_rfl))
            have d45 : ev (.tmp 45) = .iface 9 (.string pth) := hdeps 45 (of_decide_eq_true (by kernel_rfl))
            have d51 : ev (.tmp 51) = .iface 9 (.string ms) := hdeps 51 (of_decide_eq_true (by kernel_rfl))
            rw [if_pos (by kernel_rfl)]
            left
            refine step_val (v := .slice (some ⟨w'.heap.size, 0, none⟩) 3 3) (w' := w'.alloc (.cells #[.iface 9 (.string ⟨#[100, 105, 114]⟩), .iface 9 (.string pth), .iface 9 (.string ms)] 20)) ?_ (hK _ _ (gr_alloc (Below.refl _ _) _) (by intro d hd; cases hd; exact ⟨_, rfl, Blk.new _ _ _⟩) (by intro d hd hm; cases hd; exact absurd hm (by decide)))
            rw [← hev]
            clear hK hdeps hbase hev
            simp only [execOp, hec, hef, d42, d45, d51]
            go_simp
          refine ⟨?_, ?_⟩
          · intro a w' hB hsz hbase hdeps K hK
            obtain ⟨ev, hev⟩ : ∃ ev, ev = a.eval := ⟨_, rfl⟩
            have hec : ∀ v, ev (.const v) = v := fun v => by rw [hev]; rfl
            have hef : ∀ f, ev (.func f) = .func (.func f) #[] #[] := fun f => by rw [hev]; rfl
            rw [← hev] at hbase hdeps
            have d52 := hdeps 52 (of_decide_eq_true (by kernel_rfl))
            obtain ⟨g52, e52, h52⟩ := d52
            rw [if_pos (by kernel_rfl)]
            left
            refine step_enter (w' := w') (f := 35) (args := #[.slice (some ⟨g52, 0, none⟩) 3 3]) ?_ ?_
            · rw [← hev]
              clear hK hdeps hbase hev
              simp only [execOp, hec, hef, e52]
              go_simp
            · refine (words_at [.s sDir, .s pth, .s ms] [sDir, pth, ms] (by rfl) (Nat.le_of_ble_eq_true rfl) (by intro a ha; simp at ha; rcases ha with rfl | rfl | rfl <;> trivial) g52 20 3 w.heap.size w' (hTB.out.below hB (Nat.le_refl _)) h52 (Nat.le_trans hbw hB.size)).mono ?_
              rintro e W ⟨u, rfl, hown, hb⟩
              exact ⟨_, rfl, hK _ _ hb (by intro d hd; cases hd; exact ⟨u, rfl, hown⟩) (by intro d hd hm; cases hd; exact absurd hm (by decide))⟩
          refine ⟨?_, ?_⟩
          · intro a w' hB hsz hbase hdeps K hK
            obtain ⟨ev, hev⟩ : ∃ ev, ev = a.eval := ⟨_, rfl⟩
            have hec : ∀ v, ev (.const v) = v := fun v => by rw [hev]; rfl
            have hef : ∀ f, ev (.func f) = .func (.func f) #[] #[] := fun f => by rw [hev]; rfl
            rw [← hev] at hbase hdeps
            obtain ⟨u53, e53, h53⟩ := hdeps 53 (of_decide_eq_true (by kernel_rfl))
            obtain ⟨a53, b53, rfl⟩ := own_slice h53
            rw [if_pos (by kernel_rfl)]
            left
            refine step_val (v := .slice (some ⟨w'.heap.size, 0, none⟩) 1 1) (w' := w'.alloc (.cells #[.int .i64 0, .slice a53 3 b53] 77)) ?_ (hK _ _ (gr_alloc (Below.refl _ _) _) (by intro q hq; cases hq; exact ⟨_, _, rfl, Blk.new _ _ _, h53.alloc _⟩) (by intro d hd hm; cases hd; exact absurd hm (by decide)))
            rw [← hev]
            clear h53
            clear hK hdeps hbase hev
            simp only [execOp, hec, hef, e53]
            go_simp
          exact trivial
        case fin =>
          intro a X hB hsz hdef hbase hS _
          have v41 : a.eval (.tmp 41) = .slice va vn vc := hS _ (List.mem_of_getElem? (i := 0) rfl) 41 rfl
          have v42 : a.eval (.tmp 42) = .iface 9 (.string ⟨#[100, 105, 114]⟩) := hS _ (List.mem_of_getElem? (i := 1) rfl) 42 rfl
          have v43 : a.eval (.tmp 43) = (.pointer (some ⟨wr.heap.size, 0, none⟩)) := hS _ (List.mem_of_getElem? (i := 2) rfl) 43 rfl
          have v44 : a.eval (.tmp 44) = .string pth := hS _ (List.mem_of_getElem? (i := 3) rfl) 44 rfl
          have v45 : a.eval (.tmp 45) = .iface 9 (.string pth) := hS _ (List.mem_of_getElem? (i := 4) rfl) 45 rfl
          obtain ⟨y46, v46, q46⟩ := hS _ (List.mem_of_getElem? (i := 5) rfl) 46 rfl
          have v47 : a.eval (.tmp 47) = (.pointer (some ⟨wr.heap.size, 1, none⟩)) := hS _ (List.mem_of_getElem? (i := 6) rfl) 47 rfl
          have v48 : a.eval (.tmp 48) = .int .i64 (md : Int) := hS _ (List.mem_of_getElem? (i := 7) rfl) 48 rfl
          obtain ⟨y49, v49, q49⟩ := hS _ (List.mem_of_getElem? (i := 8) rfl) 49 rfl
          have v50 : a.eval (.tmp 50) = .string ms := hS _ (List.mem_of_getElem? (i := 9) rfl) 50 rfl
          have v51 : a.eval (.tmp 51) = .iface 9 (.string ms) := hS _ (List.mem_of_getElem? (i := 10) rfl) 51 rfl
          obtain ⟨y52, v52, q52⟩ := hS _ (List.mem_of_getElem? (i := 11) rfl) 52 rfl
          obtain ⟨y53, v53, q53⟩ := hS _ (List.mem_of_getElem? (i := 12) rfl) 53 rfl
          obtain ⟨y54, z54, v54, q54, p54⟩ := hS _ (List.mem_of_getElem? (i := 13) rfl) 54 rfl
          have ha := act_overX [(41, .slice va vn vc), (42, .iface 9 (.string ⟨#[100, 105, 114]⟩)), (43, (.pointer (some ⟨wr.heap.size, 0, none⟩))), (44, .string pth), (45, .iface 9 (.string pth)), (46, .slice (some ⟨y46, 0, none⟩) 3 3), (47, (.pointer (some ⟨wr.heap.size, 1, none⟩))), (48, .int .i64 (md : Int)), (49, .pointer (some ⟨y49, md, none⟩)), (50, .string ms), (51, .iface 9 (.string ms)), (52, .slice (some ⟨y52, 0, none⟩) 3 3), (53, .agg #[.int .i64 0, y53]), (54, .slice (some ⟨y54, 0, none⟩) 1 1)] hsz hdef hbase (by kernel_rfl) ⟨v41, v42, v43, v44, v45, v46, v47, v48, v49, v50, v51, v52, v53, v54, trivial⟩
          clear hsz hdef hbase hS v41 v42 v43 v44 v45 v46 v47 v48 v49 v50 v51 v52 v53 v54
          subst ha
          simp only [List.drop, putAll]
          simp (config := {decide := false}) only [Act.put, List.setIfInBounds_toArray, List.set_cons_zero, List.set_cons_succ]

          obtain ⟨v', X2, hrun, o2, hb2, hk2⟩ := OwnRs.app F.out.2.1 hbwo hB (rowW [sDir, pth, ms]) (g := y54) (vw := z54) q54 p54 hPl
          rw [hvn'] at hrun
          have hX2 := hb2.size
          obtain ⟨va2, n2, vc2, rfl, hn2⟩ := o2.sl
          have Y := Lib.hid (And.intro o2 (And.intro hb2 (And.intro hk2 hn2)))
          have hyc := hk2 _ _ _ hbx.out (by decide)
          have xc : X2.cell? ⟨wr.heap.size, 2, none⟩ = some (.slice uA nj uc) := hyc.cell' (i := 2) rfl
          have xl := hyc.lt
          have B2 := Lib.hid hB
          clear hB q53 q52 q49 q46 q54 p54 o2 hb2 hk2 hyc hn2
          go_wp2_with (fail)
          obtain ⟨T, hT0⟩ : ∃ T, T = (c.dirs.drop (k + 1)).flatMap drRows ++ c.ros.map roRow := ⟨_, rfl⟩
          have hst : RwSt w w.heap.size #[.int .i64 cp, .int .i64 lm, .slice (some ⟨ab, ao, none⟩) nd dc, .slice rA nr rc] rs (d.rus.flatMap ruRows ++ T) (.slice va2 n2 vc2) X2 := by
            refine ⟨P ++ [rowW [sDir, pth, ms]], Y.out.1, ?_, F.out.2.2.2.1.trans Y.out.2.1, Y.out.2.2.1 _ _ _ F.out.2.2.2.2.1 (by decide)⟩
            rw [hT0, List.append_assoc]
            exact F.out.2.2.1
          have F3 := Lib.hid (And.intro hst (And.intro F.out.2.2.2.2.2.2.1 (And.intro F.out.2.2.2.2.2.2.2.1 (And.intro F.out.2.2.2.2.2.2.2.2.1 (And.intro F.out.2.2.2.2.2.2.2.2.2.1 (And.intro F.out.2.2.2.2.2.2.2.2.2.2 hT0))))))
          have hm' := Lib.hid F.out.1
          clear hst hT0 xc xl Y B2 F F2 hrun
          go_loopg [5, 59] nj (fun m rv iv wx => ∃ j : Nat, m = nj - j ∧ j ≤ nj ∧ iv = .int .i64 (j : Int) ∧ RwSt w w.heap.size #[.int .i64 cp, .int .i64 lm, .slice (some ⟨ab, ao, none⟩) nd dc, .slice rA nr rc] rs ((d.rus.drop j).flatMap ruRows ++ T) rv wx)
          case atStart => exact ⟨0, rfl, Nat.zero_le _, rfl, F3.out.1⟩
          case round =>
            obtain ⟨j, hmj, hj, rfl, P, hP, hPr, hbel, hbc⟩ := hrel
            have hbw := hbel.size
            by_cases hjl : j < nj
            · have hji : (j : Int) < nj := by omega
              obtain ⟨rb, ro, r, qv, rfl, hrb, hr, hq, e0, e1, e2, e3, e4, e5, e6, e7, e8, e9, e10, e11, e12, e13⟩ := cells_ru (F3.out.2.1.below hbel) F3.out.2.2.2.2.1 F3.out.2.2.2.1 hjl
              obtain ⟨va0, vn0, vc0, rfl, hvn0⟩ := hP.sl
              have hrs := F3.out.2.2.2.2.2.1.skip r (List.mem_of_getElem? hr)
              obtain ⟨qA, qc, qus, rfl, _, hql, hqA, _⟩ := F3.out.2.2.1 j r qv hr hq
              obtain ⟨ni, hni⟩ : ∃ n, n = r.cds.length := ⟨_, rfl⟩
              rw [← hni] at hqA e2
              have hni1 : ni ≤ 1000000 := by rw [hni]; exact F3.out.2.2.2.2.2.1.cds r (List.mem_of_getElem? hr)
              obtain ⟨fl, hfl⟩ : ∃ f, f = r.fl := ⟨_, rfl⟩
              obtain ⟨rp, hrp⟩ : ∃ f, f = r.p := ⟨_, rfl⟩
              obtain ⟨rn, hrn⟩ : ∃ f, f = r.nc := ⟨_, rfl⟩
              obtain ⟨rt, hrt⟩ : ∃ f, f = r.tg := ⟨_, rfl⟩
              rw [← hfl] at e4 e5 e6 e7 e8 e9 e10 e11 e12 e13 hrs
              rw [← hrp] at e0
              rw [← hrn] at e1
              rw [← hrt] at e3
              have hbo : Below wr.heap.size wr (wr.alloc (.cells #[.string rp, .bool rn, .slice qA ni qc, .string rt, Value.bool fl.last, .bool fl.next, .bool fl.chain, .bool fl.fin, .bool fl.forb, .bool fl.gone, .bool fl.app, .bool fl.disc, .int .i64 fl.skip, .int .i64 fl.red] 66)) := gr_alloc (Below.refl _ _) _
              have hbx := show Blk (wr.alloc (.cells #[.string rp, .bool rn, .slice qA ni qc, .string rt, Value.bool fl.last, .bool fl.next, .bool fl.chain, .bool fl.fin, .bool fl.forb, .bool fl.gone, .bool fl.app, .bool fl.disc, .int .i64 fl.skip, .int .i64 fl.red] 66)) wr.heap.size 66 #[.string rp, .bool rn, .slice qA ni qc, .string rt, Value.bool fl.last, .bool fl.next, .bool fl.chain, .bool fl.fin, .bool fl.forb, .bool fl.gone, .bool fl.app, .bool fl.disc, .int .i64 fl.skip, .int .i64 fl.red] from Blk.new _ _ _
              have hdrop : (d.rus.drop j).flatMap ruRows = r.cds.map condRow ++ (ruleRow r :: (d.rus.drop (j + 1)).flatMap ruRows) := by
                rw [drop_at_l hr, List.flatMap_cons]
                unfold ruRows
                simp
              obtain ⟨T2, hT2⟩ : ∃ T2, T2 = ruleRow r :: ((d.rus.drop (j + 1)).flatMap ruRows ++ T) := ⟨_, rfl⟩
              have hst : RwSt w w.heap.size #[.int .i64 cp, .int .i64 lm, .slice (some ⟨ab, ao, none⟩) nd dc, .slice rA nr rc] rs (r.cds.map condRow ++ T2) (.slice va0 vn0 vc0) (wr.alloc (.cells #[.string rp, .bool rn, .slice qA ni qc, .string rt, Value.bool fl.last, .bool fl.next, .bool fl.chain, .bool fl.fin, .bool fl.forb, .bool fl.gone, .bool fl.app, .bool fl.disc, .int .i64 fl.skip, .int .i64 fl.red] 66)) := by
                refine ⟨P, hP.below hbo, ?_, gr_call hbel hbo, hbc.call hbo⟩
                rw [hdrop] at hPr
                rw [hT2, ← hPr]
                simp
              have F4 := Lib.hid (And.intro hmj (And.intro hst (And.intro hqA (And.intro hql (And.intro hni (And.intro hT2 (And.intro hbx (And.intro hrs (And.intro hfl (And.intro hrp (And.intro hrn hrt)))))))))))
              clear hmj hvn0 hst hqA hql hni hT2 hbo hbx hdrop hP hPr hbel hbc hr hq hrs hfl hrp hrn hrt
              go_wp2_with (fail)
              obtain ⟨w3, hw3⟩ : ∃ w3, w3 = wr.alloc (.cells #[.string rp, .bool rn, .slice qA ni qc, .string rt, Value.bool fl.last, .bool fl.next, .bool fl.chain, .bool fl.fin, .bool fl.forb, .bool fl.gone, .bool fl.app, .bool fl.disc, .int .i64 fl.skip, .int .i64 fl.red] 66) := ⟨_, rfl⟩
              rw [← hw3] at F4 ⊢
              obtain ⟨g9, hg9⟩ : ∃ g, g = wr.heap.size := ⟨_, rfl⟩
              rw [← hg9] at F4 ⊢
              clear hw3 hg9
              go_loopg [5, 66] ni (fun m rv iv wx => ∃ i : Nat, m = ni - i ∧ i ≤ ni ∧ iv = .int .i64 (i : Int) ∧ RwSt w w.heap.size #[.int .i64 cp, .int .i64 lm, .slice (some ⟨ab, ao, none⟩) nd dc, .slice rA nr rc] rs ((r.cds.drop i).map condRow ++ T2) rv wx ∧ Blk wx g9 66 #[.string rp, .bool rn, .slice qA ni qc, .string rt, Value.bool fl.last, .bool fl.next, .bool fl.chain, .bool fl.fin, .bool fl.forb, .bool fl.gone, .bool fl.app, .bool fl.disc, .int .i64 fl.skip, .int .i64 fl.red])
              case atStart => exact ⟨0, rfl, Nat.zero_le _, rfl, F4.out.2.1, F4.out.2.2.2.2.2.2.1⟩
              case round =>
                obtain ⟨i, hmi, hi, rfl, ⟨P, hP, hPr, hbel, hbc⟩, hbx⟩ := hrel
                have hbw := hbel.size
                by_cases hil : i < ni
                · have hii2 : (i : Int) < ni := by omega
                  obtain ⟨kb, ko, x, rfl, hkb, hx, d0, d1, d2, d3, d4⟩ := cells_cd (F4.out.2.2.1.below hbel) F4.out.2.2.2.2.1 F4.out.2.2.2.1 hil
                  obtain ⟨xt, hxt⟩ : ∃ f, f = x.t := ⟨_, rfl⟩
                  obtain ⟨xno, hxno⟩ : ∃ f, f = x.no := ⟨_, rfl⟩
                  obtain ⟨xp, hxp⟩ : ∃ f, f = x.p := ⟨_, rfl⟩
                  obtain ⟨xnc, hxnc⟩ : ∃ f, f = x.nc := ⟨_, rfl⟩
                  obtain ⟨xor, hxor⟩ : ∃ f, f = x.orr := ⟨_, rfl⟩
                  rw [← hxt] at d0
                  rw [← hxno] at d1
                  rw [← hxp] at d2
                  rw [← hxnc] at d3
                  rw [← hxor] at d4
                  have hrow : condRow x = rowW ([sIf, xt, xp] ++ optB xno sNot ++ optB xnc sNocase ++ optB xor sOr) := by unfold condRow; rw [hxt, hxno, hxp, hxnc, hxor]
                  obtain ⟨ts, hts⟩ : ∃ ts, ts = [sIf, xt, xp] ++ optB xno sNot ++ optB xnc sNocase ++ optB xor sOr := ⟨_, rfl⟩
                  rw [← hts] at hrow
                  have hPw : P ++ (rowW ts :: ((r.cds.drop (i + 1)).map condRow ++ T2)) = rs := by
                    rw [drop_at_l hx, List.map_cons, hrow] at hPr
                    simpa using hPr
                  have hPl : P.length ≤ 1000000000 := by have := congrArg List.length hPw; rw [List.length_append] at this; omega
                  have htl : ts = [Arg.s sIf, .s xt, .s xp, .o xno sNot, .o xnc sNocase, .o xor sOr].flatMap argT := by rw [hts]; simp [argT]
                  obtain ⟨va, vn, vc, rfl, hvn⟩ := hP.sl
                  obtain ⟨Y1, hY1⟩ : ∃ Y, Y = (wr.alloc (.cells #[.string xt, .bool xno, .string xp, .bool xnc, .bool xor] 68)).alloc (.cells #[.iface 9 (.string ⟨#[105, 102]⟩), .iface 9 (.string xt), .iface 9 (.string xp),
                    .iface 82 (.agg #[.bool xno, .string ⟨#[110, 111, 116]⟩]), .iface 82 (.agg #[.bool xnc, .string ⟨#[110, 111, 99, 97, 115, 101]⟩]), .iface 82 (.agg #[.bool xor, .string ⟨#[111, 114]⟩])] 20) := ⟨_, rfl⟩
                  have hbY : Below wr.heap.size wr Y1 := by rw [hY1]; exact gr_alloc (gr_alloc (Below.refl _ _) _) _
                  have hblk : Blk Y1 (wr.heap.size + 1) 20 ([Arg.s sIf, .s xt, .s xp, .o xno sNot, .o xnc sNocase, .o xor sOr].map argV).toArray := by
                    rw [hY1]
                    exact blk_at (by simp)
                  have hwd := words_at [.s sIf, .s xt, .s xp, .o xno sNot, .o xnc sNocase, .o xor sOr] ts htl (Nat.le_of_ble_eq_true rfl) (by intro a ha; simp at ha; rcases ha with rfl | rfl | rfl | rfl | rfl | rfl <;> trivial) (wr.heap.size + 1) _ 6 w.heap.size Y1
                    ((HB.out.1.below hbel (Nat.le_refl _)).below hbY (Nat.le_refl _)) hblk (Nat.le_trans hbw hbY.size)
                  have F5 := Lib.hid (And.intro hmi (And.intro hP (And.intro hPw (And.intro hbel (And.intro hbc (And.intro hbx (And.intro hvn (And.intro hbY hblk))))))))
                  clear hmi hP hPr hPw hbel hbc hbx hvn hbY hblk hrow hx hts htl hxt hxno hxp hxnc hxor
                  go_wp2_with (fail)
                  rw [hY1] at hwd
                  refine hwd.mono ?_
                  rintro e W ⟨u, rfl, hown, hbWx⟩
                  clear hwd
                  obtain ⟨ua, uc2, rfl⟩ := own_slice hown
                  obtain ⟨un, hun⟩ : ∃ n, n = ts.length := ⟨_, rfl⟩
                  have hbWx : Below Y1.heap.size Y1 W := by rw [hY1]; exact hbWx
                  have hWr : Below wr.heap.size wr W := gr_call F5.out.2.2.2.2.2.2.2.1 hbWx
                  have hWY : Below W.heap.size W (W.alloc (.cells #[.int .i64 0, .slice ua ts.length uc2] 77)) := gr_alloc (Below.refl _ _) _
                  obtain ⟨v', X2, hrun, o2, hb2, hk2⟩ := OwnRs.app F5.out.2.1 hbw (gr_call hWr hWY) (rowW ts) (g := W.heap.size) (vw := .slice ua ts.length uc2) (Blk.new _ _ _) (by rw [rowW_len]; exact own_below hown hWY (Nat.le_refl _)) hPl
                  rw [← hun] at hrun ⊢
                  obtain ⟨va2, n2, vc2, rfl, hn2⟩ := o2.sl
                  have hX2 := hb2.size
                  have Y := Lib.hid (And.intro o2 (And.intro hb2 (And.intro hk2 hn2)))
                  clear hown hWr hWY o2 hb2 hk2 hn2 hbWx hun hY1
                  go_wp2_with (fail)
                  go_roundg (ni - (i + 1))
                  case measure => have := F5.out.1; omega
                  case rel =>
                    refine ⟨i + 1, rfl, by omega, rfl, ⟨_, Y.out.1, ?_, F5.out.2.2.2.1.trans Y.out.2.1, Y.out.2.2.1 _ _ _ F5.out.2.2.2.2.1 (by decide)⟩, Y.out.2.2.1 _ _ _ F5.out.2.2.2.2.2.1 (by decide)⟩
                    have := F5.out.2.2.1
                    rw [List.append_assoc]
                    exact this
                · have hii2 : ¬ (i : Int) < ni := by omega
                  have hPw : P ++ T2 = rs := by
                    rw [List.drop_eq_nil_of_le (by rw [← F4.out.2.2.2.2.1]; omega)] at hPr
                    exact hPr
                  obtain ⟨va, vn, vc, rfl, hvn⟩ := hP.sl
                  have hftx := ftext fl F4.out.2.2.2.2.2.2.2.1 wr (HB.out.1.below hbel (Nat.le_refl _)) (HB.out.2.1.below hbel (Nat.le_refl _))
                  have e0 := hbx.cell' (i := 0) rfl
                  have e1 := hbx.cell' (i := 1) rfl
                  have e3 := hbx.cell' (i := 3) rfl
                  have e4 := hbx.cell' (i := 4) rfl
                  have e5 := hbx.cell' (i := 5) rfl
                  have e6 := hbx.cell' (i := 6) rfl
                  have e7 := hbx.cell' (i := 7) rfl
                  have e8 := hbx.cell' (i := 8) rfl
                  have e9 := hbx.cell' (i := 9) rfl
                  have e10 := hbx.cell' (i := 10) rfl
                  have e11 := hbx.cell' (i := 11) rfl
                  have e12 := hbx.cell' (i := 12) rfl
                  have e13 := hbx.cell' (i := 13) rfl
                  have el := hbx.lt
                  have F5 := Lib.hid (And.intro hP (And.intro hPw (And.intro hbel (And.intro hbc (And.intro hbx hvn)))))
                  clear hmi hP hPr hPw hbel hbc hbx hvn
                  go_wp2_with (fail)
                  refine hftx.mono ?_
                  rintro e W ⟨rfl, hbW⟩
                  obtain ⟨ft, hft⟩ : ∃ f, f = ftxV fl := ⟨_, rfl⟩
                  rw [← hft]
                  obtain ⟨be, hbe⟩ : ∃ b, b = ft.toList.isEmpty := ⟨_, rfl⟩
                  have hE : ft.toList.isEmpty = be := hbe.symm
                  have hbxW := F5.out.2.2.2.2.1.call hbW
                  have e0 : W.cell? ⟨g9, 0, none⟩ = some (.string rp) := hbxW.cell' (i := 0) rfl
                  have e1 : W.cell? ⟨g9, 1, none⟩ = some (.bool rn) := hbxW.cell' (i := 1) rfl
                  have e3 : W.cell? ⟨g9, 3, none⟩ = some (.string rt) := hbxW.cell' (i := 3) rfl
                  have el := hbxW.lt
                  have hbelW := gr_call F5.out.2.2.1 hbW
                  have hbwW := hbelW.size
                  obtain ⟨ts, hts⟩ : ∃ ts, ts = [sRule, rp, rt] ++ optB rn sNocase ++ optB (!be) ft := ⟨_, rfl⟩
                  have hrow : ruleRow r = rowW ts := by
                    unfold ruleRow
                    rw [hts, hbe, empty_iff, hft, F4.out.2.2.2.2.2.2.2.2.1, F4.out.2.2.2.2.2.2.2.2.2.1, F4.out.2.2.2.2.2.2.2.2.2.2.1, F4.out.2.2.2.2.2.2.2.2.2.2.2]
                  have htl : ts = [Arg.s sRule, .s rp, .s rt, .o rn sNocase, .o (!be) ft].flatMap argT := by rw [hts]; simp [argT]
                  have hPw : P ++ (rowW ts :: ((d.rus.drop (j + 1)).flatMap ruRows ++ T)) = rs := by rw [← hrow, ← F4.out.2.2.2.2.2.1]; exact F5.out.2.1
                  have hPl : P.length ≤ 1000000000 := by have := congrArg List.length hPw; rw [List.length_append] at this; omega
                  obtain ⟨Y1, hY1⟩ : ∃ Y, Y = W.alloc (.cells #[.iface 9 (.string ⟨#[114, 117, 108, 101]⟩), .iface 9 (.string rp), .iface 9 (.string rt),
                    .iface 82 (.agg #[.bool rn, .string ⟨#[110, 111, 99, 97, 115, 101]⟩]), .iface 82 (.agg #[.bool (!be), .string ft])] 20) := ⟨_, rfl⟩
                  have hbY : Below W.heap.size W Y1 := by rw [hY1]; exact gr_alloc (Below.refl _ _) _
                  have hblk : Blk Y1 W.heap.size 20 ([Arg.s sRule, .s rp, .s rt, .o rn sNocase, .o (!be) ft].map argV).toArray := by
                    rw [hY1]
                    exact blk_at rfl
                  have hwd := words_at [.s sRule, .s rp, .s rt, .o rn sNocase, .o (!be) ft] ts htl (Nat.le_of_ble_eq_true rfl) (by intro a ha; simp at ha; rcases ha with rfl | rfl | rfl | rfl | rfl <;> trivial) W.heap.size _ 5 w.heap.size Y1
                    ((HB.out.1.below hbelW (Nat.le_refl _)).below hbY (Nat.le_refl _)) hblk (Nat.le_trans hbwW hbY.size)
                  have F6 := Lib.hid (And.intro hPw (And.intro hbelW (And.intro (F5.out.2.2.2.1.call hbW) (And.intro (F5.out.1.below hbW) (And.intro F5.out.2.2.2.2.2 hbY)))))
                  clear hftx hft hbe hbxW hbelW hts hrow htl hPw hblk hbY hbW
                  go_wp2_with (fail)
                  rw [hY1] at hwd
                  refine hwd.mono ?_
                  rintro e W4 ⟨u, rfl, hown, hbWx⟩
                  clear hwd
                  obtain ⟨ua, uc2, rfl⟩ := own_slice hown
                  obtain ⟨un, hun⟩ : ∃ n, n = ts.length := ⟨_, rfl⟩
                  have hbWx : Below Y1.heap.size Y1 W4 := by rw [hY1]; exact hbWx
                  have hWr : Below W.heap.size W W4 := gr_call F6.out.2.2.2.2.2 hbWx
                  have hWY : Below W4.heap.size W4 (W4.alloc (.cells #[.int .i64 0, .slice ua ts.length uc2] 77)) := gr_alloc (Below.refl _ _) _
                  obtain ⟨v', X2, hrun, o2, hb2, hk2⟩ := OwnRs.app F6.out.2.2.2.1 hbwW (gr_call hWr hWY) (rowW ts) (g := W4.heap.size) (vw := .slice ua ts.length uc2) (Blk.new _ _ _) (by rw [rowW_len]; exact own_below hown hWY (Nat.le_refl _)) hPl
                  rw [← hun] at hrun ⊢
                  obtain ⟨va2, n2, vc2, rfl, hn2⟩ := o2.sl
                  have hX2 := hb2.size
                  have Y := Lib.hid (And.intro o2 (And.intro hb2 (And.intro hk2 hn2)))
                  clear hown hWr hWY o2 hb2 hk2 hn2 hbWx hun hY1
                  go_wp2_with (fail)
                  go_roundg (nj - (j + 1))
                  case measure => have := F4.out.1; omega
                  case rel =>
                    refine ⟨j + 1, rfl, by omega, rfl, ⟨_, Y.out.1, ?_, F6.out.2.1.trans Y.out.2.1, Y.out.2.2.1 _ _ _ F6.out.2.2.1 (by decide)⟩⟩
                    have := F6.out.1
                    rw [List.append_assoc]
                    exact this
            · have hji : ¬ (j : Int) < nj := by omega
              have hPw : P ++ T = rs := by
                rw [List.drop_eq_nil_of_le (by rw [← F3.out.2.2.2.2.1]; omega)] at hPr
                exact hPr
              obtain ⟨va, vn, vc, rfl, hvn⟩ := hP.sl
              have F5 := Lib.hid (And.intro hP (And.intro hPw (And.intro hbel hbc)))
              clear hmj hP hPr hPw hbel hbc hvn
              go_wp2_with (fail)
              go_roundg (nd - (k + 1))
              case measure => have := hm'.out; omega
              case rel => exact ⟨k + 1, rfl, by omega, rfl, P, F5.out.1, by rw [← F3.out.2.2.2.2.2.2]; exact F5.out.2.1, F5.out.2.2.1, F5.out.2.2.2⟩
      · have hii : ¬ (k : Int) < nd := by omega
        have hPw : P ++ c.ros.map roRow = rs := by
          rw [List.drop_eq_nil_of_le (by rw [← HA.out.2.2.2.2.2.2.2.1]; omega)] at hPr
          exact hPr
        obtain ⟨va, vn, vc, rfl, hvn⟩ := hP.sl
        have c3 : wr.cell? ⟨w.heap.size, 3, none⟩ = some (.slice rA nr rc) := hbc.cell' (i := 3) rfl
        have cl := hbc.lt
        have F := Lib.hid (show RwSt w w.heap.size #[.int .i64 cp, .int .i64 lm, .slice dA nd dc, .slice rA nr rc] rs (c.ros.map roRow) (.slice va vn vc) wr from ⟨P, hP, hPw, hbel, hbc⟩)
        clear hm hP hPr hPw hbel hbc hvn
        go_wp2_with (fail)
        go_loopg [5, 127] nr (fun m rv iv wx => ∃ k : Nat, m = nr - k ∧ k ≤ nr ∧ iv = .int .i64 (k : Int) ∧ RwSt w w.heap.size #[.int .i64 cp, .int .i64 lm, .slice dA nd dc, .slice rA nr rc] rs ((c.ros.drop k).map roRow) rv wx)
        case atStart => exact ⟨0, rfl, Nat.zero_le _, rfl, F.out⟩
        case round =>
          obtain ⟨i, hm, hi, rfl, P, hP, hPr, hbel, hbc⟩ := hrel
          have hbw := hbel.size
          by_cases hil : i < nr
          · have hii2 : (i : Int) < nr := by omega
            obtain ⟨ab, ao, r, u, rfl, hab, hr, hu, c0, c1, c2⟩ := cells_ro (HA.out.2.2.2.2.2.1.below hbel) HA.out.2.2.2.2.2.2.2.2.1 HA.out.2.2.2.2.1 hil
            have hrm := List.mem_of_getElem? hr
            obtain ⟨hk0, hk4, _⟩ := chkRos_ok H1.out.2.1.2 r hrm
            obtain ⟨kd, hkd⟩ : ∃ m : Nat, r.kind = (m : Int) + 1 := ⟨(r.kind - 1).toNat, by omega⟩
            have hkd4 : kd < 4 := by omega
            have hkdI : (kd : Int) < 4 := by omega
            have hkdJ : ¬ 4 ≤ (kd : Int) := by omega
            have hkw : IntKind.i64.wrap (kd : Int) = (kd : Int) := by
              match kd, hkd4 with
              | 0, _ => rfl
              | 1, _ => rfl
              | 2, _ => rfl
              | 3, _ => rfl
            obtain ⟨hsg, hcap⟩ := HA.out.2.2.2.2.2.2.1 i r u hr hu
            have hro := HA.out.1.ros r hrm
            have hjn := HB.out.2.2.2.2.2 r hrm
            obtain ⟨pth, hpth⟩ : ∃ p, p = pathB r.seg := ⟨_, rfl⟩
            obtain ⟨ks, hks0⟩ : ∃ s, s = kindsL.getD kd ⟨#[]⟩ := ⟨_, rfl⟩
            obtain ⟨tx, htx⟩ : ∃ s, s = r.txt := ⟨_, rfl⟩
            have hks := Lib.hid (show (#[Value.string ⟨#[102, 105, 120, 101, 100]⟩, .string ⟨#[101, 99, 104, 111]⟩, .string ⟨#[102, 105, 108, 101]⟩, .string ⟨#[98, 111, 100, 121]⟩] : Array Value)[kd]? = some (.string ks) by
              rw [hks0]
              match kd, hkd4 with
              | 0, _ => rfl
              | 1, _ => rfl
              | 2, _ => rfl
              | 3, _ => rfl)
            have hrow : roRow r = rowW [sRoute, pth, ks, tx] := by
              unfold roRow
              rw [hpth, hks0, htx, hkd, show ((kd : Int) + 1 - 1).toNat = kd by omega]
            rw [hkd] at c1
            rw [← htx] at c2
            obtain ⟨sA, sc, husl, _⟩ := hsg
            obtain ⟨sn, hsn⟩ : ∃ n, n = r.seg.length := ⟨_, rfl⟩
            rw [← hsn] at husl
            subst husl
            have hbo : Below wr.heap.size wr (wr.alloc (.cells #[.slice sA sn sc, .int .i64 ((kd : Int) + 1), .string tx] 70)) := gr_alloc (Below.refl _ _) _
            have hbx := Lib.hid (show Blk (wr.alloc (.cells #[.slice sA sn sc, .int .i64 ((kd : Int) + 1), .string tx] 70)) wr.heap.size 70 #[.slice sA sn sc, .int .i64 ((kd : Int) + 1), .string tx] from Blk.new _ _ _)
            have hpath := Lib.hid (show ∀ W, Below (wr.alloc (.cells #[.slice sA sn sc, .int .i64 ((kd : Int) + 1), .string tx] 70)).heap.size (wr.alloc (.cells #[.slice sA sn sc, .int .i64 ((kd : Int) + 1), .string tx] 70)) W → Calls Tryz.prog 38 #[.slice sA sn sc] W fun e W' => e = .returned (.string pth) ∧ Below W.heap.size W W' from fun W hW => by
              rw [hpth]
              exact path_code r.seg hro.len hjn _ W (TextsIn.below (TextsIn.below (HA.out.2.2.2.2.2.2.1 i r _ hr hu).1 (gr_call hbel hbo)) hW) hcap)
            have hPw : P ++ (rowW [sRoute, pth, ks, tx] :: (c.ros.drop (i + 1)).map roRow) = rs := by
              rw [drop_at_l hr, List.map_cons, hrow] at hPr
              exact hPr
            have hPl : P.length ≤ 1000000000 := by have := congrArg List.length hPw; rw [List.length_append] at this; omega
            have hTB := Lib.hid ((HB.out.1.below hbel (Nat.le_refl _)).below hbo (Nat.le_refl _))
            obtain ⟨va, vn, vc, rfl, hvn⟩ := hP.sl
            have F := Lib.hid (And.intro hm (And.intro (hP.below hbo) (And.intro hPw (And.intro (gr_call hbel hbo) (hbc.call hbo)))))
            have hbw := (gr_call hbel hbo).size
            clear hm hP hPr hbel hbc hr hu hrm hk0 hk4 hkd hcap hro hjn hpth hks0 htx hrow hsn hbo hPw hvn
            go_wp2_with (fail)
            refine wp_region_lateX 19 [] (fun d x v => match d with
              | 131 => v = .slice va vn vc
              | 132 => v = .iface 9 (.string ⟨#[114, 111, 117, 116, 101]⟩)
              | 133 => v = (.pointer (some ⟨wr.heap.size, 0, none⟩))
              | 134 => v = .slice sA sn sc
              | 135 => v = .string pth
              | 136 => v = .iface 9 (.string pth)
              | 137 => ∃ g, v = .slice (some ⟨g, 0, none⟩) 4 4 ∧ Blk x g 9 #[.string ⟨#[102, 105, 120, 101, 100]⟩, .string ⟨#[101, 99, 104, 111]⟩, .string ⟨#[102, 105, 108, 101]⟩, .string ⟨#[98, 111, 100, 121]⟩]
              | 138 => v = (.pointer (some ⟨wr.heap.size, 1, none⟩))
              | 139 => v = .int .i64 ((kd : Int) + 1)
              | 140 => v = .int .i64 (kd : Int)
              | 141 => ∃ g, v = .pointer (some ⟨g, kd, none⟩) ∧ Blk x g 9 #[.string ⟨#[102, 105, 120, 101, 100]⟩, .string ⟨#[101, 99, 104, 111]⟩, .string ⟨#[102, 105, 108, 101]⟩, .string ⟨#[98, 111, 100, 121]⟩]
              | 142 => v = .string ks
              | 143 => v = .iface 9 (.string ks)
              | 144 => v = (.pointer (some ⟨wr.heap.size, 2, none⟩))
              | 145 => v = .string tx
              | 146 => v = .iface 9 (.string tx)
              | 147 => ∃ g, v = .slice (some ⟨g, 0, none⟩) 4 4 ∧ Blk x g 20 #[.iface 9 (.string ⟨#[114, 111, 117, 116, 101]⟩), .iface 9 (.string pth), .iface 9 (.string ks), .iface 9 (.string tx)]
              | 148 => ∃ u, v = .agg #[.int .i64 0, u] ∧ x.ownsRow w.heap.size 116 3 u ([sRoute, pth, ks, tx] : List ByteArray).length (wdsC (rowW [sRoute, pth, ks, tx]).w)
              | 149 => ∃ g u, v = .slice (some ⟨g, 0, none⟩) 1 1 ∧ Blk x g 77 #[.int .i64 0, u] ∧ x.ownsRow w.heap.size 116 3 u ([sRoute, pth, ks, tx] : List ByteArray).length (wdsC (rowW [sRoute, pth, ks, tx]).w)
              | _ => v = .bool true) (by kernel_rfl) (by kernel_rfl) (by kernel_rfl) (by kernel_rfl) (by decide) ?stable ?dist ?steps ?fin
            case stable =>
              intro d x x' v hB h
              revert h
              split <;> intro h <;> first
                | exact h
                | (obtain ⟨u, h1, h2⟩ := h; exact ⟨u, h1, own_below h2 hB (Nat.le_refl _)⟩)
                | (obtain ⟨g, h1, h2⟩ := h; exact ⟨g, h1, h2.call hB⟩)
                | (obtain ⟨g, u, h1, h2, h3⟩ := h; exact ⟨g, u, h1, h2.call hB, own_below h3 hB (Nat.le_refl _)⟩)
            case dist =>
              intro d hd
              cases hd
            case steps =>
              refine ⟨?_, ?_⟩
              · intro a w' hB hsz hbase hdeps K hK
                obtain ⟨ev, hev⟩ : ∃ ev, ev = a.eval := ⟨_, rfl⟩
                have hec : ∀ v, ev (.const v) = v := fun v => by rw [hev]; rfl
                have hef : ∀ f, ev (.func f) = .func (.func f) #[] #[] := fun f => by rw [hev]; rfl
                rw [← hev] at hbase hdeps
                have b5 : ev (.tmp 5) = .slice va vn vc := (hbase 5 (by kernel_rfl))
                rw [if_pos (by kernel_rfl)]
                left
                refine step_val (v := .slice va vn vc) (w' := w') ?_ (hK _ _ (Below.refl _ _) (by intro d hd; cases hd; exact rfl) (by intro d hd hm; cases hd; exact absurd hm (by decide)))
                rw [← hev]
                clear hK hdeps hbase hev
                simp only [execOp, hec, hef, b5]
                go_simp
              refine ⟨?_, ?_⟩
              · intro a w' hB hsz hbase hdeps K hK
                obtain ⟨ev, hev⟩ : ∃ ev, ev = a.eval := ⟨_, rfl⟩
                have hec : ∀ v, ev (.const v) = v := fun v => by rw [hev]; rfl
                have hef : ∀ f, ev (.func f) = .func (.func f) #[] #[] := fun f => by rw [hev]; rfl
                rw [← hev] at hbase hdeps
                rw [if_pos (by kernel_rfl)]
                left
                refine step_val (v := .iface 9 (.string ⟨#[114, 111, 117, 116, 101]⟩)) (w' := w') ?_ (hK _ _ (Below.refl _ _) (by intro d hd; cases hd; exact rfl) (by intro d hd hm; cases hd; exact absurd hm (by decide)))
                rw [← hev]
                clear hK hdeps hbase hev
                simp only [execOp, hec, hef]
                go_simp
              refine ⟨?_, ?_⟩
              · intro a w' hB hsz hbase hdeps K hK
                obtain ⟨ev, hev⟩ : ∃ ev, ev = a.eval := ⟨_, rfl⟩
                have hec : ∀ v, ev (.const v) = v := fun v => by rw [hev]; rfl
                have hef : ∀ f, ev (.func f) = .func (.func f) #[] #[] := fun f => by rw [hev]; rfl
                rw [← hev] at hbase hdeps
                have b15 : ev (.tmp 15) = (.pointer (some ⟨wr.heap.size, 0, none⟩)) := (hbase 15 (by kernel_rfl))
                rw [if_pos (by kernel_rfl)]
                left
                refine step_val (v := (.pointer (some ⟨wr.heap.size, 0, none⟩))) (w' := w') ?_ (hK _ _ (Below.refl _ _) (by intro d hd; cases hd; exact rfl) (by intro d hd hm; cases hd; exact absurd hm (by decide)))
                rw [← hev]
                clear hK hdeps hbase hev
                simp only [execOp, hec, hef, b15]
                go_simp
              refine ⟨?_, ?_⟩
              · intro a w' hB hsz hbase hdeps K hK
                obtain ⟨ev, hev⟩ : ∃ ev, ev = a.eval := ⟨_, rfl⟩
                have hec : ∀ v, ev (.const v) = v := fun v => by rw [hev]; rfl
                have hef : ∀ f, ev (.func f) = .func (.func f) #[] #[] := fun f => by rw [hev]; rfl
                rw [← hev] at hbase hdeps
                have d133 : ev (.tmp 133) = (.pointer (some ⟨wr.heap.size, 0, none⟩)) := hdeps 133 (of_decide_eq_true (by kernel_rfl))
                rw [if_pos (by kernel_rfl)]
                left
                have xb := hbx.out.call hB
                have x0 : w'.cell? ⟨wr.heap.size, 0, none⟩ = some (.slice sA sn sc) := xb.cell' (i := 0) rfl
                have x1 : w'.cell? ⟨wr.heap.size, 1, none⟩ = some (.int .i64 ((kd : Int) + 1)) := xb.cell' (i := 1) rfl
                have x2 : w'.cell? ⟨wr.heap.size, 2, none⟩ = some (.string tx) := xb.cell' (i := 2) rfl
                have xl := xb.lt
                clear xb
                refine step_val (v := .slice sA sn sc) (w' := w') ?_ (hK _ _ (Below.refl _ _) (by intro d hd; cases hd; exact rfl) (by intro d hd hm; cases hd; exact absurd hm (by decide)))
                rw [← hev]
                clear hK hdeps hbase hev
                simp only [execOp, hec, hef, d133]
                go_simp
              refine ⟨?_, ?_⟩
              · intro a w' hB hsz hbase hdeps K hK
                obtain ⟨ev, hev⟩ : ∃ ev, ev = a.eval := ⟨_, rfl⟩
                have hec : ∀ v, ev (.const v) = v := fun v => by rw [hev]; rfl
                have hef : ∀ f, ev (.func f) = .func (.func f) #[] #[] := fun f => by rw [hev]; rfl
                rw [← hev] at hbase hdeps
                have d134 : ev (.tmp 134) = .slice sA sn sc := hdeps 134 (of_decide_eq_true (by kernel_rfl))
                rw [if_pos (by kernel_rfl)]
                left
                refine step_enter (w' := w') (f := 38) (args := #[.slice sA sn sc]) ?_ ?_
                · rw [← hev]
                  clear hK hdeps hbase hev
                  simp only [execOp, hec, hef, d134]
                  go_simp
                · refine (hpath.out w' hB).mono ?_
                  rintro e W ⟨rfl, hb⟩
                  exact ⟨_, rfl, hK _ _ hb (by intro d hd; cases hd; exact rfl) (by intro d hd hm; cases hd; exact absurd hm (by decide))⟩
              refine ⟨?_, ?_⟩
              · intro a w' hB hsz hbase hdeps K hK
                obtain ⟨ev, hev⟩ : ∃ ev, ev = a.eval := ⟨_, rfl⟩
                have hec : ∀ v, ev (.const v) = v := fun v => by rw [hev]; rfl
                have hef : ∀ f, ev (.func f) = .func (.func f) #[] #[] := fun f => by rw [hev]; rfl
                rw [← hev] at hbase hdeps
                have d135 : ev (.tmp 135) = .string pth := hdeps 135 (of_decide_eq_true (by kernel_rfl))
                rw [if_pos (by kernel_rfl)]
                left
                refine step_val (v := .iface 9 (.string pth)) (w' := w') ?_ (hK _ _ (Below.refl _ _) (by intro d hd; cases hd; exact rfl) (by intro d hd hm; cases hd; exact absurd hm (by decide)))
                rw [← hev]
                clear hK hdeps hbase hev
                simp only [execOp, hec, hef, d135]
                go_simp
              refine ⟨?_, ?_⟩
              · intro a w' hB hsz hbase hdeps K hK
                obtain ⟨ev, hev⟩ : ∃ ev, ev = a.eval := ⟨_, rfl⟩
                have hec : ∀ v, ev (.const v) = v := fun v => by rw [hev]; rfl
                have hef : ∀ f, ev (.func f) = .func (.func f) #[] #[] := fun f => by rw [hev]; rfl
                rw [← hev] at hbase hdeps
                rw [if_pos (by kernel_rfl)]
                left
                refine step_enter (w' := w') (f := 39) (args := #[]) ?_ ?_
                · rw [← hev]
                  clear hK hdeps hbase hev
                  simp only [execOp, hec, hef]
                  go_simp
                · refine (kinds_code w').mono ?_
                  rintro e W ⟨rfl, rfl⟩
                  exact ⟨_, rfl, hK _ _ (gr_alloc (Below.refl _ _) _) (by intro d hd; cases hd; exact ⟨_, rfl, Blk.new _ _ _⟩) (by intro d hd hm; cases hd; exact absurd hm (by decide))⟩
              refine ⟨?_, ?_⟩
              · intro a w' hB hsz hbase hdeps K hK
                obtain ⟨ev, hev⟩ : ∃ ev, ev = a.eval := ⟨_, rfl⟩
                have hec : ∀ v, ev (.const v) = v := fun v => by rw [hev]; rfl
                have hef : ∀ f, ev (.func f) = .func (.func f) #[] #[] := fun f => by rw [hev]; rfl
                rw [← hev] at hbase hdeps
                have b15 : ev (.tmp 15) = (.pointer (some ⟨wr.heap.size, 0, none⟩)) := (hbase 15 (by kernel_rfl))
                rw [if_pos (by kernel_rfl)]
                left
                refine step_val (v := (.pointer (some ⟨wr.heap.size, 1, none⟩))) (w' := w') ?_ (hK _ _ (Below.refl _ _) (by intro d hd; cases hd; exact rfl) (by intro d hd hm; cases hd; exact absurd hm (by decide)))
                rw [← hev]
                clear hK hdeps hbase hev
                simp only [execOp, hec, hef, b15]
                go_simp
              refine ⟨?_, ?_⟩
              · intro a w' hB hsz hbase hdeps K hK
                obtain ⟨ev, hev⟩ : ∃ ev, ev = a.eval := ⟨_, rfl⟩
                have hec : ∀ v, ev (.const v) = v := fun v => by rw [hev]; rfl
                have hef : ∀ f, ev (.func f) = .func (.func f) #[] #[] := fun f => by rw [hev]; rfl
                rw [← hev] at hbase hdeps
                have d138 : ev (.tmp 138) = (.pointer (some ⟨wr.heap.size, 1, none⟩)) := hdeps 138 (of_decide_eq_true (by kernel_rfl))
                rw [if_pos (by kernel_rfl)]
                left
                have xb := hbx.out.call hB
                have x0 : w'.cell? ⟨wr.heap.size, 0, none⟩ = some (.slice sA sn sc) := xb.cell' (i := 0) rfl
                have x1 : w'.cell? ⟨wr.heap.size, 1, none⟩ = some (.int .i64 ((kd : Int) + 1)) := xb.cell' (i := 1) rfl
                have x2 : w'.cell? ⟨wr.heap.size, 2, none⟩ = some (.string tx) := xb.cell' (i := 2) rfl
                have xl := xb.lt
                clear xb
                refine step_val (v := .int .i64 ((kd : Int) + 1)) (w' := w') ?_ (hK _ _ (Below.refl _ _) (by intro d hd; cases hd; exact rfl) (by intro d hd hm; cases hd; exact absurd hm (by decide)))
                rw [← hev]
                clear hK hdeps hbase hev
                simp only [execOp, hec, hef, d138]
                go_simp
              refine ⟨?_, ?_⟩
              · intro a w' hB hsz hbase hdeps K hK
                obtain ⟨ev, hev⟩ : ∃ ev, ev = a.eval := ⟨_, rfl⟩
                have hec : ∀ v, ev (.const v) = v := fun v => by rw [hev]; rfl
                have hef : ∀ f, ev (.func f) = .func (.func f) #[] #[] := fun f => by rw [hev]; rfl
                rw [← hev] at hbase hdeps
                have d139 : ev (.tmp 139) = .int .i64 ((kd : Int) + 1) := hdeps 139 (of_decide_eq_true (by kernel_rfl))
                rw [if_pos (by kernel_rfl)]
                left
                refine step_val (v := .int .i64 (kd : Int)) (w' := w') ?_ (hK _ _ (Below.refl _ _) (by intro d hd; cases hd; exact rfl) (by intro d hd hm; cases hd; exact absurd hm (by decide)))
                rw [← hev]
                clear hK hdeps hbase hev
                simp only [execOp, hec, hef, d139]
                go_simp
              refine ⟨?_, ?_⟩
              · intro a w' hB hsz hbase hdeps K hK
                obtain ⟨ev, hev⟩ : ∃ ev, ev = a.eval := ⟨_, rfl⟩
                have hec : ∀ v, ev (.const v) = v := fun v => by rw [hev]; rfl
                have hef : ∀ f, ev (.func f) = .func (.func f) #[] #[] := fun f => by rw [hev]; rfl
                rw [← hev] at hbase hdeps
                obtain ⟨g137, e137, h137⟩ := hdeps 137 (of_decide_eq_true (by kernel_rfl))
                have di : ev (.tmp 140) = .int .i64 (kd : Int) := hdeps 140 (of_decide_eq_true (by kernel_rfl))
                rw [if_pos (by kernel_rfl)]
                left
                have hbl := h137.lt
                refine step_val (v := .pointer (some ⟨g137, kd, none⟩)) (w' := w') ?_ (hK _ _ (Below.refl _ _) (by intro d hd; cases hd; exact ⟨_, rfl, h137⟩) (by intro d hd hm; cases hd; exact absurd hm (by decide)))
                rw [← hev]
                clear hK hdeps hbase hev
                simp only [execOp, hec, hef, e137, di]
                go_simp
              refine ⟨?_, ?_⟩
              · intro a w' hB hsz hbase hdeps K hK
                obtain ⟨ev, hev⟩ : ∃ ev, ev = a.eval := ⟨_, rfl⟩
                have hec : ∀ v, ev (.const v) = v := fun v => by rw [hev]; rfl
                have hef : ∀ f, ev (.func f) = .func (.func f) #[] #[] := fun f => by rw [hev]; rfl
                rw [← hev] at hbase hdeps
                have d141 := hdeps 141 (of_decide_eq_true (by kernel_rfl))
                obtain ⟨g141, e141, h141⟩ := d141
                rw [if_pos (by kernel_rfl)]
                left
                have xb := hbx.out.call hB
                have x0 : w'.cell? ⟨wr.heap.size, 0, none⟩ = some (.slice sA sn sc) := xb.cell' (i := 0) rfl
                have x1 : w'.cell? ⟨wr.heap.size, 1, none⟩ = some (.int .i64 ((kd : Int) + 1)) := xb.cell' (i := 1) rfl
                have x2 : w'.cell? ⟨wr.heap.size, 2, none⟩ = some (.string tx) := xb.cell' (i := 2) rfl
                have xl := xb.lt
                clear xb
                have xm : w'.cell? ⟨g141, kd, none⟩ = some (.string ks) := h141.cell' hks.out
                refine step_val (v := .string ks) (w' := w') ?_ (hK _ _ (Below.refl _ _) (by intro d hd; cases hd; exact rfl) (by intro d hd hm; cases hd; exact absurd hm (by decide)))
                rw [← hev]
                clear hK hdeps hbase hev
                simp only [execOp, hec, hef, e141]
                go_simp
              refine ⟨?_, ?_⟩
              · intro a w' hB hsz hbase hdeps K hK
                obtain ⟨ev, hev⟩ : ∃ ev, ev = a.eval := ⟨_, rfl⟩
                have hec : ∀ v, ev (.const v) = v := fun v => by rw [hev]; rfl
                have hef : ∀ f, ev (.func f) = .func (.func f) #[] #[] := fun f => by rw [hev]; rfl
                rw [← hev] at hbase hdeps
                have d142 : ev (.tmp 142) = .string ks := hdeps 142 (of_decide_eq_true (by kernel_rfl))
                rw [if_pos (by kernel_rfl)]
                left
                refine step_val (v := .iface 9 (.string ks)) (w' := w') ?_ (hK _ _ (Below.refl _ _) (by intro d hd; cases hd; exact rfl) (by intro d hd hm; cases hd; exact absurd hm (by decide)))
                rw [← hev]
                clear hK hdeps hbase hev
                simp only [execOp, hec, hef, d142]
                go_simp
              refine ⟨?_, ?_⟩
              · intro a w' hB hsz hbase hdeps K hK
                obtain ⟨ev, hev⟩ : ∃ ev, ev = a.eval := ⟨_, rfl⟩
                have hec : ∀ v, ev (.const v) = v := fun v => by rw [hev]; rfl
                have hef : ∀ f, ev (.func f) = .func (.func f) #[] #[] := fun f => by rw [hev]; rfl
                rw [← hev] at hbase hdeps
                have b15 : ev (.tmp 15) = (.pointer (some ⟨wr.heap.size, 0, none⟩)) := (hbase 15 (by kernel_rfl))
                rw [if_pos (by kernel_rfl)]
                left
                refine step_val (v := (.pointer (some ⟨wr.heap.size, 2, none⟩))) (w' := w') ?_ (hK _ _ (Below.refl _ _) (by intro d hd; cases hd; exact rfl) (by intro d hd hm; cases hd; exact absurd hm (by decide)))
                rw [← hev]
                clear hK hdeps hbase hev
                simp only [execOp, hec, hef, b15]
                go_simp
              refine ⟨?_, ?_⟩
              · intro a w' hB hsz hbase hdeps K hK
                obtain ⟨ev, hev⟩ : ∃ ev, ev = a.eval := ⟨_, rfl⟩
                have hec : ∀ v, ev (.const v) = v := fun v => by rw [hev]; rfl
                have hef : ∀ f, ev (.func f) = .func (.func f) #[] #[] := fun f => by rw [hev]; rfl
                rw [← hev] at hbase hdeps
                have d144 : ev (.tmp 144) = (.pointer (some ⟨wr.heap.size, 2, none⟩)) := hdeps 144 (of_decide_eq_true (by kernel_rfl))
                rw [if_pos (by kernel_rfl)]
                left
                have xb := hbx.out.call hB
                have x0 : w'.cell? ⟨wr.heap.size, 0, none⟩ = some (.slice sA sn sc) := xb.cell' (i := 0) rfl
                have x1 : w'.cell? ⟨wr.heap.size, 1, none⟩ = some (.int .i64 ((kd : Int) + 1)) := xb.cell' (i := 1) rfl
                have x2 : w'.cell? ⟨wr.heap.size, 2, none⟩ = some (.string tx) := xb.cell' (i := 2) rfl
                have xl := xb.lt
                clear xb
                refine step_val (v := .string tx) (w' := w') ?_ (hK _ _ (Below.refl _ _) (by intro d hd; cases hd; exact rfl) (by intro d hd hm; cases hd; exact absurd hm (by decide)))
                rw [← hev]
                clear hK hdeps hbase hev
                simp only [execOp, hec, hef, d144]
                go_simp
              refine ⟨?_, ?_⟩
              · intro a w' hB hsz hbase hdeps K hK
                obtain ⟨ev, hev⟩ : ∃ ev, ev = a.eval := ⟨_, rfl⟩
                have hec : ∀ v, ev (.const v) = v := fun v => by rw [hev]; rfl
                have hef : ∀ f, ev (.func f) = .func (.func f) #[] #[] := fun f => by rw [hev]; rfl
                rw [← hev] at hbase hdeps
                have d145 : ev (.tmp 145) = .string tx := hdeps 145 (of_decide_eq_true (by kernel_rfl))
                rw [if_pos (by kernel_rfl)]
                left
                refine step_val (v := .iface 9 (.string tx)) (w' := w') ?_ (hK _ _ (Below.refl _ _) (by intro d hd; cases hd; exact rfl) (by intro d hd hm; cases hd; exact absurd hm (by decide)))
                rw [← hev]
                clear hK hdeps hbase hev
                simp only [execOp, hec, hef, d145]
                go_simp
              refine ⟨?_, ?_⟩
              · intro a w' hB hsz hbase hdeps K hK
                obtain ⟨ev, hev⟩ : ∃ ev, ev = a.eval := ⟨_, rfl⟩
                have hec : ∀ v, ev (.const v) = v := fun v => by rw [hev]; rfl
                have hef : ∀ f, ev (.func f) = .func (.func f) #[] #[] := fun f => by rw [hev]; rfl
                rw [← hev] at hbase hdeps
                have d132 : ev (.tmp 132) = .iface 9 (.string ⟨#[114, 111, 117, 116, 101]⟩) := hdeps 132 (of_decide_eq_true (by kernel_rfl))
                have d136 : ev (.tmp 136) = .iface 9 (.string pth) := hdeps 136 (of_decide_eq_true (by kernel_rfl))
                have d143 : ev (.tmp 143) = .iface 9 (.string ks) := hdeps 143 (of_decide_eq_true (by kernel_rfl))
                have d146 : ev (.tmp 146) = .iface 9 (.string tx) := hdeps 146 (of_decide_eq_true (by kernel_rfl))
                rw [if_pos (by kernel_rfl)]
                left
                refine step_val (v := .slice (some ⟨w'.heap.size, 0, none⟩) 4 4) (w' := w'.alloc (.cells #[.iface 9 (.string ⟨#[114, 111, 117, 116, 101]⟩), .iface 9 (.string pth), .iface 9 (.string ks), .iface 9 (.string tx)] 20)) ?_ (hK _ _ (gr_alloc (Below.refl _ _) _) (by intro d hd; cases hd; exact ⟨_, rfl, Blk.new _ _ _⟩) (by intro d hd hm; cases hd; exact absurd hm (by decide)))
                rw [← hev]
                clear hK hdeps hbase hev
                simp only [execOp, hec, hef, d132, d136, d143, d146]
                go_simp
              refine ⟨?_, ?_⟩
              · intro a w' hB hsz hbase hdeps K hK
                obtain ⟨ev, hev⟩ : ∃ ev, ev = a.eval := ⟨_, rfl⟩
                have hec : ∀ v, ev (.const v) = v := fun v => by rw [hev]; rfl
                have hef : ∀ f, ev (.func f) = .func (.func f) #[] #[] := fun f => by rw [hev]; rfl
                rw [← hev] at hbase hdeps
                have d147 := hdeps 147 (of_decide_eq_true (by kernel_rfl))
                obtain ⟨g147, e147, h147⟩ := d147
                rw [if_pos (by kernel_rfl)]
                left
                refine step_enter (w' := w') (f := 35) (args := #[.slice (some ⟨g147, 0, none⟩) 4 4]) ?_ ?_
                · rw [← hev]
                  clear hK hdeps hbase hev
                  simp only [execOp, hec, hef, e147]
                  go_simp
                · refine (words_at [.s sRoute, .s pth, .s ks, .s tx] [sRoute, pth, ks, tx] (by rfl) (Nat.le_of_ble_eq_true rfl) (by intro a ha; simp at ha; rcases ha with rfl | rfl | rfl | rfl <;> trivial) g147 20 4 w.heap.size w' (hTB.out.below hB (Nat.le_refl _)) h147 (Nat.le_trans hbw hB.size)).mono ?_
                  rintro e W ⟨u, rfl, hown, hb⟩
                  exact ⟨_, rfl, hK _ _ hb (by intro d hd; cases hd; exact ⟨u, rfl, hown⟩) (by intro d hd hm; cases hd; exact absurd hm (by decide))⟩
              refine ⟨?_, ?_⟩
              · intro a w' hB hsz hbase hdeps K hK
                obtain ⟨ev, hev⟩ : ∃ ev, ev = a.eval := ⟨_, rfl⟩
                have hec : ∀ v, ev (.const v) = v := fun v => by rw [hev]; rfl
                have hef : ∀ f, ev (.func f) = .func (.func f) #[] #[] := fun f => by rw [hev]; rfl
                rw [← hev] at hbase hdeps
                obtain ⟨u148, e148, h148⟩ := hdeps 148 (of_decide_eq_true (by kernel_rfl))
                obtain ⟨a148, b148, rfl⟩ := own_slice h148
                rw [if_pos (by kernel_rfl)]
                left
                refine step_val (v := .slice (some ⟨w'.heap.size, 0, none⟩) 1 1) (w' := w'.alloc (.cells #[.int .i64 0, .slice a148 4 b148] 77)) ?_ (hK _ _ (gr_alloc (Below.refl _ _) _) (by intro q hq; cases hq; exact ⟨_, _, rfl, Blk.new _ _ _, h148.alloc _⟩) (by intro d hd hm; cases hd; exact absurd hm (by decide)))
                rw [← hev]
                clear h148
                clear hK hdeps hbase hev
                simp only [execOp, hec, hef, e148]
                go_simp
              exact trivial
            case fin =>
              intro a X hB hsz hdef hbase hS _
              have v131 : a.eval (.tmp 131) = .slice va vn vc := hS _ (List.mem_of_getElem? (i := 0) rfl) 131 rfl
              have v132 : a.eval (.tmp 132) = .iface 9 (.string ⟨#[114, 111, 117, 116, 101]⟩) := hS _ (List.mem_of_getElem? (i := 1) rfl) 132 rfl
              have v133 : a.eval (.tmp 133) = (.pointer (some ⟨wr.heap.size, 0, none⟩)) := hS _ (List.mem_of_getElem? (i := 2) rfl) 133 rfl
              have v134 : a.eval (.tmp 134) = .slice sA sn sc := hS _ (List.mem_of_getElem? (i := 3) rfl) 134 rfl
              have v135 : a.eval (.tmp 135) = .string pth := hS _ (List.mem_of_getElem? (i := 4) rfl) 135 rfl
              have v136 : a.eval (.tmp 136) = .iface 9 (.string pth) := hS _ (List.mem_of_getElem? (i := 5) rfl) 136 rfl
              obtain ⟨y137, v137, q137⟩ := hS _ (List.mem_of_getElem? (i := 6) rfl) 137 rfl
              have v138 : a.eval (.tmp 138) = (.pointer (some ⟨wr.heap.size, 1, none⟩)) := hS _ (List.mem_of_getElem? (i := 7) rfl) 138 rfl
              have v139 : a.eval (.tmp 139) = .int .i64 ((kd : Int) + 1) := hS _ (List.mem_of_getElem? (i := 8) rfl) 139 rfl
              have v140 : a.eval (.tmp 140) = .int .i64 (kd : Int) := hS _ (List.mem_of_getElem? (i := 9) rfl) 140 rfl
              obtain ⟨y141, v141, q141⟩ := hS _ (List.mem_of_getElem? (i := 10) rfl) 141 rfl
              have v142 : a.eval (.tmp 142) = .string ks := hS _ (List.mem_of_getElem? (i := 11) rfl) 142 rfl
              have v143 : a.eval (.tmp 143) = .iface 9 (.string ks) := hS _ (List.mem_of_getElem? (i := 12) rfl) 143 rfl
              have v144 : a.eval (.tmp 144) = (.pointer (some ⟨wr.heap.size, 2, none⟩)) := hS _ (List.mem_of_getElem? (i := 13) rfl) 144 rfl
              have v145 : a.eval (.tmp 145) = .string tx := hS _ (List.mem_of_getElem? (i := 14) rfl) 145 rfl
              have v146 : a.eval (.tmp 146) = .iface 9 (.string tx) := hS _ (List.mem_of_getElem? (i := 15) rfl) 146 rfl
              obtain ⟨y147, v147, q147⟩ := hS _ (List.mem_of_getElem? (i := 16) rfl) 147 rfl
              obtain ⟨y148, v148, q148⟩ := hS _ (List.mem_of_getElem? (i := 17) rfl) 148 rfl
              obtain ⟨y149, z149, v149, q149, p149⟩ := hS _ (List.mem_of_getElem? (i := 18) rfl) 149 rfl
              have ha := act_overX [(131, .slice va vn vc), (132, .iface 9 (.string ⟨#[114, 111, 117, 116, 101]⟩)), (133, (.pointer (some ⟨wr.heap.size, 0, none⟩))), (134, .slice sA sn sc), (135, .string pth), (136, .iface 9 (.string pth)), (137, .slice (some ⟨y137, 0, none⟩) 4 4), (138, (.pointer (some ⟨wr.heap.size, 1, none⟩))), (139, .int .i64 ((kd : Int) + 1)), (140, .int .i64 (kd : Int)), (141, .pointer (some ⟨y141, kd, none⟩)), (142, .string ks), (143, .iface 9 (.string ks)), (144, (.pointer (some ⟨wr.heap.size, 2, none⟩))), (145, .string tx), (146, .iface 9 (.string tx)), (147, .slice (some ⟨y147, 0, none⟩) 4 4), (148, .agg #[.int .i64 0, y148]), (149, .slice (some ⟨y149, 0, none⟩) 1 1)] hsz hdef hbase (by kernel_rfl) ⟨v131, v132, v133, v134, v135, v136, v137, v138, v139, v140, v141, v142, v143, v144, v145, v146, v147, v148, v149, trivial⟩
              clear hsz hdef hbase hS v131 v132 v133 v134 v135 v136 v137 v138 v139 v140 v141 v142 v143 v144 v145 v146 v147 v148 v149
              subst ha
              simp only [List.drop, putAll]
              simp (config := {decide := false}) only [Act.put, List.setIfInBounds_toArray, List.set_cons_zero, List.set_cons_succ]

              obtain ⟨v', X2, hrun, o2, hb2, hk2⟩ := OwnRs.app F.out.2.1 hbw hB (rowW [sRoute, pth, ks, tx]) (g := y149) (vw := z149) q149 p149 hPl
              obtain ⟨va2, n2, vc2, rfl, hn2⟩ := o2.sl
              have hX2 := hb2.size
              have Y := Lib.hid (And.intro o2 (And.intro hb2 (And.intro hk2 hn2)))
              clear hB q148 q147 q141 q137 q149 p149 o2 hb2 hk2 hn2
              go_wp2_with (fail)
              go_roundg (nr - (i + 1))
              case measure => have := F.out.1; omega
              case rel =>
                refine ⟨i + 1, rfl, by omega, rfl, ⟨_, Y.out.1, ?_, F.out.2.2.2.1.trans Y.out.2.1, Y.out.2.2.1 _ _ _ F.out.2.2.2.2 (by decide)⟩⟩
                rw [List.append_assoc]
                exact F.out.2.2.1
          · have hii2 : ¬ (i : Int) < nr := by omega
            have hPw : P = rs := by
              rw [List.drop_eq_nil_of_le (by rw [← HA.out.2.2.2.2.2.2.2.2.1]; omega)] at hPr
              simpa using hPr
            subst hPw
            have htx := wText P hN (by rw [HR.out]; exact HB.out.2.2.2.2.1) _ wr hP.in_
            obtain ⟨va, vn, vc, rfl, hvn⟩ := hP.sl
            have F := Lib.hid (And.intro hbel H1.out.2.2)
            clear hm hP hPr hbel hbc hvn
            go_wp2_with (fail)
            refine htx.mono ?_
            rintro e W3 ⟨rfl, hb3⟩
            have F7 := Lib.hid hb3
            clear htx hb3
            unfold rtV
            go_wp2_with (fail)
            go_ret2
            refine ⟨?_, gr_call F.out.1 F7.out⟩
            rw [F.out.2]; rfl
end Go.Proofs.YthpcbaamkeiffaaGreatDoor
