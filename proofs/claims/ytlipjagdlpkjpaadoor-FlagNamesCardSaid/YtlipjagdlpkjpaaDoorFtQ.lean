/-
  The reference's With, walked; no condition.
-/
import Derived.Test.YtlipjagdlpkjpaaDoorFtN
import Derived.Test.YtlipjagdlpkjpaaDoorFtK
import Derived.Deep.RegionWith
namespace Go.Proofs.YtlipjagdlpkjpaaDoor
open Go.RowKit
set_option linter.unusedVariables false
set_option linter.unusedSimpArgs false

set_option maxRecDepth 100000 in
set_option maxHeartbeats 400000 in
theorem rwith_res (A : Nat) (f : Flg) (er : Int) (tmps : Array Value) (w : World) (h4 : tmps.getD 4 undef = .pointer (some ⟨A, 0, none⟩)) (h5 : tmps.getD 5 undef = .int .i64 er)
    (hA : Blk w A 24 #[Value.bool f.last, .bool f.next, .bool f.chain, .bool f.fin, .bool f.forb, .bool f.gone, .bool f.app, .bool f.disc, .int .i64 f.skip, .int .i64 f.red]) :
    (results Tryd.f24 tmps).run Tryd.prog w = .ok (.tuple #[Value.agg #[Value.bool f.last, .bool f.next, .bool f.chain, .bool f.fin, .bool f.forb, .bool f.gone, .bool f.app, .bool f.disc, .int .i64 f.skip, .int .i64 f.red], .int .i64 er]) w := by
  have a0 := hA.cell' (i := 0) rfl
  have a1 := hA.cell' (i := 1) rfl
  have a2 := hA.cell' (i := 2) rfl
  have a3 := hA.cell' (i := 3) rfl
  have a4 := hA.cell' (i := 4) rfl
  have a5 := hA.cell' (i := 5) rfl
  have a6 := hA.cell' (i := 6) rfl
  have a7 := hA.cell' (i := 7) rfl
  have a8 := hA.cell' (i := 8) rfl
  have a9 := hA.cell' (i := 9) rfl
  simp only [List.getElem_toArray, List.getElem_cons_zero, List.getElem_cons_succ] at a0 a1 a2 a3 a4 a5 a6 a7 a8 a9
  clear hA
  simp only [Array.getD_eq_getD_getElem?] at h4 h5
  simp [results, Tryd.results24, go_sem, h4, h5, a0, a1, a2, a3, a4, a5, a6, a7, a8, a9]
/-- What put gave, written. -/
theorem set_putW {W w : World} {N B : Nat} {q : Put} {f : Flg} {a b : Bool} (h1 : Blk W N 24 #[Value.bool f.last, .bool f.next, .bool f.chain, .bool f.fin, .bool f.forb, .bool f.gone, .bool f.app, .bool f.disc, .int .i64 f.skip, .int .i64 f.red]) (h2 : Blk W B 56 #[.bool a, .bool b])
    (hR : Blk W (N + 1) 24 #[Value.bool zeroF.last, .bool zeroF.next, .bool zeroF.chain, .bool zeroF.fin, .bool zeroF.forb, .bool zeroF.gone, .bool zeroF.app, .bool zeroF.disc, .int .i64 zeroF.skip, .int .i64 zeroF.red]) (hNB : N + 1 < B) (hb : Below N w W) :
    Blk ((((((((((((W.setCell ⟨N, 0, none⟩ (.bool q.f.last)).setCell ⟨N, 1, none⟩ (.bool q.f.next)).setCell ⟨N, 2, none⟩ (.bool q.f.chain)).setCell ⟨N, 3, none⟩ (.bool q.f.fin)).setCell ⟨N, 4, none⟩ (.bool q.f.forb)).setCell ⟨N, 5, none⟩ (.bool q.f.gone)).setCell ⟨N, 6, none⟩ (.bool q.f.app)).setCell ⟨N, 7, none⟩ (.bool q.f.disc)).setCell ⟨N, 8, none⟩ (.int .i64 q.f.skip)).setCell ⟨N, 9, none⟩ (.int .i64 q.f.red)).setCell ⟨B, 0, none⟩ (.bool q.sk)).setCell ⟨B, 1, none⟩ (.bool q.rd)) N 24 #[Value.bool q.f.last, .bool q.f.next, .bool q.f.chain, .bool q.f.fin, .bool q.f.forb, .bool q.f.gone, .bool q.f.app, .bool q.f.disc, .int .i64 q.f.skip, .int .i64 q.f.red] ∧ Blk ((((((((((((W.setCell ⟨N, 0, none⟩ (.bool q.f.last)).setCell ⟨N, 1, none⟩ (.bool q.f.next)).setCell ⟨N, 2, none⟩ (.bool q.f.chain)).setCell ⟨N, 3, none⟩ (.bool q.f.fin)).setCell ⟨N, 4, none⟩ (.bool q.f.forb)).setCell ⟨N, 5, none⟩ (.bool q.f.gone)).setCell ⟨N, 6, none⟩ (.bool q.f.app)).setCell ⟨N, 7, none⟩ (.bool q.f.disc)).setCell ⟨N, 8, none⟩ (.int .i64 q.f.skip)).setCell ⟨N, 9, none⟩ (.int .i64 q.f.red)).setCell ⟨B, 0, none⟩ (.bool q.sk)).setCell ⟨B, 1, none⟩ (.bool q.rd)) B 56 #[.bool q.sk, .bool q.rd] ∧
    Blk ((((((((((((W.setCell ⟨N, 0, none⟩ (.bool q.f.last)).setCell ⟨N, 1, none⟩ (.bool q.f.next)).setCell ⟨N, 2, none⟩ (.bool q.f.chain)).setCell ⟨N, 3, none⟩ (.bool q.f.fin)).setCell ⟨N, 4, none⟩ (.bool q.f.forb)).setCell ⟨N, 5, none⟩ (.bool q.f.gone)).setCell ⟨N, 6, none⟩ (.bool q.f.app)).setCell ⟨N, 7, none⟩ (.bool q.f.disc)).setCell ⟨N, 8, none⟩ (.int .i64 q.f.skip)).setCell ⟨N, 9, none⟩ (.int .i64 q.f.red)).setCell ⟨B, 0, none⟩ (.bool q.sk)).setCell ⟨B, 1, none⟩ (.bool q.rd)) (N + 1) 24 #[Value.bool zeroF.last, .bool zeroF.next, .bool zeroF.chain, .bool zeroF.fin, .bool zeroF.forb, .bool zeroF.gone, .bool zeroF.app, .bool zeroF.disc, .int .i64 zeroF.skip, .int .i64 zeroF.red] ∧ Below N w ((((((((((((W.setCell ⟨N, 0, none⟩ (.bool q.f.last)).setCell ⟨N, 1, none⟩ (.bool q.f.next)).setCell ⟨N, 2, none⟩ (.bool q.f.chain)).setCell ⟨N, 3, none⟩ (.bool q.f.fin)).setCell ⟨N, 4, none⟩ (.bool q.f.forb)).setCell ⟨N, 5, none⟩ (.bool q.f.gone)).setCell ⟨N, 6, none⟩ (.bool q.f.app)).setCell ⟨N, 7, none⟩ (.bool q.f.disc)).setCell ⟨N, 8, none⟩ (.int .i64 q.f.skip)).setCell ⟨N, 9, none⟩ (.int .i64 q.f.red)).setCell ⟨B, 0, none⟩ (.bool q.sk)).setCell ⟨B, 1, none⟩ (.bool q.rd)) := by
  refine ⟨?_, ?_, ?_, ?_⟩
  · exact ((lay10_same h1 rfl _ _ _ _ _ _ _ _ _ _).far (p := ⟨B, 0, none⟩) (by simp; omega) _).far (p := ⟨B, 1, none⟩) (by simp; omega) _
  · exact ((lay10_far h2 (by omega) _ _ _ _ _ _ _ _ _ _).set_ 0 _).set_ 1 _
  · exact ((lay10_far hR (by omega) _ _ _ _ _ _ _ _ _ _).far (p := ⟨B, 0, none⟩) (by simp; omega) _).far (p := ⟨B, 1, none⟩) (by simp; omega) _
  · refine (Below.setCell (Below.setCell ?_ (by simp; omega) _) (by simp; omega) _)
    exact hb.trans ((lay10_x (BelowX.refl _ _ _) _ _ _ _ _ _ _ _ _ _).below (Nat.le_refl _) (Nat.le_refl _))
def RwRel (f : Flg) (L : List ByteArray) (N B : Nat) (w : World) (n : Nat) (ev iv : Value) (wr : World) : Prop :=
  ∃ (k : Nat) (st : Put) (er : Int), n + k = L.length ∧ iv = .int .i64 (k : Int) ∧ ev = .int .i64 er ∧ (er = 0 → chkF f = 0 ∧ PutOk st ∧ ∃ a, runP L (putOf f) 1 = runP (L.drop k) st a) ∧ (er ≠ 0 → withR f L = (zeroF, er)) ∧
    Blk wr N 24 #[Value.bool st.f.last, .bool st.f.next, .bool st.f.chain, .bool st.f.fin, .bool st.f.forb, .bool st.f.gone, .bool st.f.app, .bool st.f.disc, .int .i64 st.f.skip, .int .i64 st.f.red] ∧ Blk wr B 56 #[.bool st.sk, .bool st.rd] ∧ Blk wr (N + 1) 24 #[Value.bool zeroF.last, .bool zeroF.next, .bool zeroF.chain, .bool zeroF.fin, .bool zeroF.forb, .bool zeroF.gone, .bool zeroF.app, .bool zeroF.disc, .int .i64 zeroF.skip, .int .i64 zeroF.red] ∧ Below N w wr

set_option maxRecDepth 100000 in
set_option maxHeartbeats 2000000 in
theorem rwith (f : Flg) (hok : FlgOk f) (G : Nat → ByteArray) (A : Option Addr) (n c : Nat) (hn : n ≤ 1000000) (hG : ∀ i, i < n → (G i).size ≤ 1000000) (w : World) (hA : Cells w A 1 n (strAt G)) :
    Calls Tryd.prog 24 #[Value.agg #[Value.bool f.last, .bool f.next, .bool f.chain, .bool f.fin, .bool f.forb, .bool f.gone, .bool f.app, .bool f.disc, .int .i64 f.skip, .int .i64 f.red], .slice A n c] w (WithPost w (withR f (namesL G n))) := by
  have HT := Lib.hid (And.intro hA (And.intro hG hok))
  have i0 := gr_alloc (gr_alloc (Below.refl w.heap.size w) (.cells #[Value.bool f.last, .bool f.next, .bool f.chain, .bool f.fin, .bool f.forb, .bool f.gone, .bool f.app, .bool f.disc, .int .i64 f.skip, .int .i64 f.red] 24)) (.cells #[Value.bool zeroF.last, .bool zeroF.next, .bool zeroF.chain, .bool zeroF.fin, .bool zeroF.forb, .bool zeroF.gone, .bool zeroF.app, .bool zeroF.disc, .int .i64 zeroF.skip, .int .i64 zeroF.red] 24)
  have f0 := (Blk.new w 24 #[Value.bool f.last, .bool f.next, .bool f.chain, .bool f.fin, .bool f.forb, .bool f.gone, .bool f.app, .bool f.disc, .int .i64 f.skip, .int .i64 f.red]).alloc (.cells #[Value.bool zeroF.last, .bool zeroF.next, .bool zeroF.chain, .bool zeroF.fin, .bool zeroF.forb, .bool zeroF.gone, .bool zeroF.app, .bool zeroF.disc, .int .i64 zeroF.skip, .int .i64 zeroF.red] 24)
  have f1 := Blk.new (w.alloc (.cells #[Value.bool f.last, .bool f.next, .bool f.chain, .bool f.fin, .bool f.forb, .bool f.gone, .bool f.app, .bool f.disc, .int .i64 f.skip, .int .i64 f.red] 24)) 24 #[Value.bool zeroF.last, .bool zeroF.next, .bool zeroF.chain, .bool zeroF.fin, .bool zeroF.forb, .bool zeroF.gone, .bool zeroF.app, .bool zeroF.disc, .int .i64 zeroF.skip, .int .i64 zeroF.red]
  rw [show (w.alloc (.cells #[Value.bool f.last, .bool f.next, .bool f.chain, .bool f.fin, .bool f.forb, .bool f.gone, .bool f.app, .bool f.disc, .int .i64 f.skip, .int .i64 f.red] 24)).heap.size = w.heap.size + 1 by simp] at f1
  have H0 := Lib.hid (And.intro f0 (And.intro f1 i0))
  clear hA hG hok f0 f1 i0
  go_enter Tryd.func24, Tryd.ntmps24
  go_wp2_with (fail)
  refine (rcheck f HT.out.2.2.1 _).mono ?_
  rintro e W1 ⟨rfl, h1⟩
  have H1 := Lib.hid (And.intro (H0.out.1.call h1) (And.intro (H0.out.2.1.call h1) (gr_call H0.out.2.2 h1)))
  clear h1 H0
  have hst : RwRel f (namesL G n) w.heap.size W1.heap.size w n (.int .i64 (chkF f)) (.int .i64 0) (W1.alloc (.cells #[.bool (putOf f).sk, .bool (putOf f).rd] 56)) :=
    ⟨0, putOf f, chkF f, by rw [names_len, Nat.add_zero], rfl, rfl, fun h => ⟨h, HT.out.2.2, 1, rfl⟩, fun h => by unfold withR; rw [if_neg h], H1.out.1.alloc _, Blk.new _ _ _, H1.out.2.1.alloc _, H1.out.2.2.alloc H1.out.2.2.size _⟩
  have HST := Lib.hid hst
  have HW := Lib.hid H1.out.2.1.lt
  have k8 : W1.cell? ⟨w.heap.size, 8, none⟩ = some (.int .i64 f.skip) := H1.out.1.cell' (i := 8) rfl
  have k9 : W1.cell? ⟨w.heap.size, 9, none⟩ = some (.int .i64 f.red) := H1.out.1.cell' (i := 9) rfl
  have klt := H1.out.1.lt
  have hwz := H1.out.2.2.size
  obtain ⟨ce, hce⟩ : ∃ ce, ce = chkF f := ⟨_, rfl⟩
  rw [← hce] at HST ⊢
  clear hst hce H1
  go_wp2_with (fail)
  clear k8 k9 klt
  go_loopg [6, 8] n (fun m ev iv wr => RwRel f (namesL G n) w.heap.size W1.heap.size w m ev iv wr)
  case atStart => exact HST.out
  case round =>
    clear HST
    obtain ⟨k, st, er, hk, rfl, rfl, hz0, hnz, hbF, hbS, hbZ, hbel⟩ := hrel
    rw [names_len] at hk
    have hwl := HW.out
    have hbz := hbel.size
    have hlS := hbS.lt
    have H := Lib.hid (And.intro hz0 (And.intro hnz (And.intro hbF (And.intro hbS (And.intro hbZ hbel)))))
    clear hz0 hnz hbS
    have c0 : wr.cell? ⟨w.heap.size, 0, none⟩ = some (.bool st.f.last) := hbF.cell' (i := 0) rfl
    have c1 : wr.cell? ⟨w.heap.size, 1, none⟩ = some (.bool st.f.next) := hbF.cell' (i := 1) rfl
    have c2 : wr.cell? ⟨w.heap.size, 2, none⟩ = some (.bool st.f.chain) := hbF.cell' (i := 2) rfl
    have c3 : wr.cell? ⟨w.heap.size, 3, none⟩ = some (.bool st.f.fin) := hbF.cell' (i := 3) rfl
    have c4 : wr.cell? ⟨w.heap.size, 4, none⟩ = some (.bool st.f.forb) := hbF.cell' (i := 4) rfl
    have c5 : wr.cell? ⟨w.heap.size, 5, none⟩ = some (.bool st.f.gone) := hbF.cell' (i := 5) rfl
    have c6 : wr.cell? ⟨w.heap.size, 6, none⟩ = some (.bool st.f.app) := hbF.cell' (i := 6) rfl
    have c7 : wr.cell? ⟨w.heap.size, 7, none⟩ = some (.bool st.f.disc) := hbF.cell' (i := 7) rfl
    have c8 : wr.cell? ⟨w.heap.size, 8, none⟩ = some (.int .i64 st.f.skip) := hbF.cell' (i := 8) rfl
    have c9 : wr.cell? ⟨w.heap.size, 9, none⟩ = some (.int .i64 st.f.red) := hbF.cell' (i := 9) rfl
    have s0 : wr.cell? ⟨W1.heap.size, 0, none⟩ = some (.bool st.sk) := H.out.2.2.2.1.cell' (i := 0) rfl
    have s1 : wr.cell? ⟨W1.heap.size, 1, none⟩ = some (.bool st.rd) := H.out.2.2.2.1.cell' (i := 1) rfl
    have z0 : wr.cell? ⟨w.heap.size + 1, 0, none⟩ = some (.bool false) := hbZ.cell' (i := 0) rfl
    have z1 : wr.cell? ⟨w.heap.size + 1, 1, none⟩ = some (.bool false) := hbZ.cell' (i := 1) rfl
    have z2 : wr.cell? ⟨w.heap.size + 1, 2, none⟩ = some (.bool false) := hbZ.cell' (i := 2) rfl
    have z3 : wr.cell? ⟨w.heap.size + 1, 3, none⟩ = some (.bool false) := hbZ.cell' (i := 3) rfl
    have z4 : wr.cell? ⟨w.heap.size + 1, 4, none⟩ = some (.bool false) := hbZ.cell' (i := 4) rfl
    have z5 : wr.cell? ⟨w.heap.size + 1, 5, none⟩ = some (.bool false) := hbZ.cell' (i := 5) rfl
    have z6 : wr.cell? ⟨w.heap.size + 1, 6, none⟩ = some (.bool false) := hbZ.cell' (i := 6) rfl
    have z7 : wr.cell? ⟨w.heap.size + 1, 7, none⟩ = some (.bool false) := hbZ.cell' (i := 7) rfl
    have z8 : wr.cell? ⟨w.heap.size + 1, 8, none⟩ = some (.int .i64 0) := hbZ.cell' (i := 8) rfl
    have z9 : wr.cell? ⟨w.heap.size + 1, 9, none⟩ = some (.int .i64 0) := hbZ.cell' (i := 9) rfl
    have q0 := hbZ.frozen 0
    have q1 := hbZ.frozen 1
    have q2 := hbZ.frozen 2
    have q3 := hbZ.frozen 3
    have q4 := hbZ.frozen 4
    have q5 := hbZ.frozen 5
    have q6 := hbZ.frozen 6
    have q7 := hbZ.frozen 7
    have q8 := hbZ.frozen 8
    have q9 := hbZ.frozen 9
    clear hbF hbZ hbel
    by_cases he : er = 0
    · have q : (er == 0) = true := by simp; exact he
      have qn : (er != 0) = false := by simp; exact he
      have HE := Lib.hid he
      clear he
      by_cases hlt : k < n
      · clear z0 z1 z2 z3 z4 z5 z6 z7 z8 z9 q0 q1 q2 q3 q4 q5 q6 q7 q8 q9
        obtain ⟨ab, ao, rfl, had, hcl⟩ := HT.out.1.below (H.out.2.2.2.2.2) (by omega)
        have hc : wr.cell? ⟨ab, ao + k, none⟩ = some (.string (G k)) := by have h1 := hcl k 0 hlt (by decide); rw [Nat.mul_one, Nat.add_zero] at h1; exact h1
        obtain ⟨p, hp⟩ : ∃ p, p = G k := ⟨_, rfl⟩
        have hps : p.size ≤ 1000000 := by rw [hp]; exact HT.out.2.1 k hlt
        have HP : Hid ((namesL G n)[k]? = some p) := Lib.hid (by rw [hp]; exact names_at hlt)
        rw [← hp] at hc
        clear hp hcl
        go_wp2_with (fail)
        go_region_with (go_at_call 34; refine (rput st p hps _).mono ?_; rintro e W2 ⟨qq, hqq, rfl, h2⟩; have y1 := H.out.2.2.1.drew.call h2; have y2 := H.out.2.2.2.1.drew.call h2; have d0 : W2.cell? ⟨w.heap.size, 0, none⟩ = some (.bool st.f.last) := y1.cell' (i := 0) rfl; have g0 := y1.frozen 0; have d1 : W2.cell? ⟨w.heap.size, 1, none⟩ = some (.bool st.f.next) := y1.cell' (i := 1) rfl; have g1 := y1.frozen 1; have d2 : W2.cell? ⟨w.heap.size, 2, none⟩ = some (.bool st.f.chain) := y1.cell' (i := 2) rfl; have g2 := y1.frozen 2; have d3 : W2.cell? ⟨w.heap.size, 3, none⟩ = some (.bool st.f.fin) := y1.cell' (i := 3) rfl; have g3 := y1.frozen 3; have d4 : W2.cell? ⟨w.heap.size, 4, none⟩ = some (.bool st.f.forb) := y1.cell' (i := 4) rfl; have g4 := y1.frozen 4; have d5 : W2.cell? ⟨w.heap.size, 5, none⟩ = some (.bool st.f.gone) := y1.cell' (i := 5) rfl; have g5 := y1.frozen 5; have d6 : W2.cell? ⟨w.heap.size, 6, none⟩ = some (.bool st.f.app) := y1.cell' (i := 6) rfl; have g6 := y1.frozen 6; have d7 : W2.cell? ⟨w.heap.size, 7, none⟩ = some (.bool st.f.disc) := y1.cell' (i := 7) rfl; have g7 := y1.frozen 7; have d8 : W2.cell? ⟨w.heap.size, 8, none⟩ = some (.int .i64 st.f.skip) := y1.cell' (i := 8) rfl; have g8 := y1.frozen 8; have d9 : W2.cell? ⟨w.heap.size, 9, none⟩ = some (.int .i64 st.f.red) := y1.cell' (i := 9) rfl; have g9 := y1.frozen 9; have t0 : W2.cell? ⟨W1.heap.size, 0, none⟩ = some (.bool st.sk) := y2.cell' (i := 0) rfl; have t1 : W2.cell? ⟨W1.heap.size, 1, none⟩ = some (.bool st.rd) := y2.cell' (i := 1) rfl; have r0 := y2.frozen 0; have r1 := y2.frozen 1; have l1 := y1.lt; have l2 := y2.lt; have Y := Lib.hid (And.intro hqq (And.intro h2 (And.intro y1 y2))); clear hqq h2 y1 y2)
        all_goals
          have G3 := Lib.hid (set_putW (q := qq) Y.out.2.2.1 Y.out.2.2.2 (H.out.2.2.2.2.1.drew.call Y.out.2.1) HW.out (gr_call (below_drewN H.out.2.2.2.2.2 1) Y.out.2.1))
          obtain ⟨X, hX⟩ : ∃ X, X = ((((((((((((W2.setCell ⟨w.heap.size, 0, none⟩ (.bool qq.f.last)).setCell ⟨w.heap.size, 1, none⟩ (.bool qq.f.next)).setCell ⟨w.heap.size, 2, none⟩ (.bool qq.f.chain)).setCell ⟨w.heap.size, 3, none⟩ (.bool qq.f.fin)).setCell ⟨w.heap.size, 4, none⟩ (.bool qq.f.forb)).setCell ⟨w.heap.size, 5, none⟩ (.bool qq.f.gone)).setCell ⟨w.heap.size, 6, none⟩ (.bool qq.f.app)).setCell ⟨w.heap.size, 7, none⟩ (.bool qq.f.disc)).setCell ⟨w.heap.size, 8, none⟩ (.int .i64 qq.f.skip)).setCell ⟨w.heap.size, 9, none⟩ (.int .i64 qq.f.red)).setCell ⟨W1.heap.size, 0, none⟩ (.bool qq.sk)).setCell ⟨W1.heap.size, 1, none⟩ (.bool qq.rd)) := ⟨_, rfl⟩
          rw [← hX] at G3 ⊢
          obtain ⟨e2, her⟩ : ∃ e2, e2 = (putP st p).2 := ⟨_, rfl⟩
          have HER := Lib.hid (And.intro her Y.out.1)
          rw [← her]
          clear hX d0 d1 d2 d3 d4 d5 d6 d7 d8 d9 g0 g1 g2 g3 g4 g5 g6 g7 g8 g9 t0 t1 r0 r1 l1 l2 Y c0 c1 c2 c3 c4 c5 c6 c7 c8 c9 s0 s1 her hc
          go_wp2_with (fail)
          go_roundg (n - (k + 1))
          case measure => omega
          case rel =>
            obtain ⟨hC, hok, a, hrun⟩ := H.out.1 HE.out
            refine ⟨k + 1, qq, e2, by rw [names_len]; omega, by go_num, rfl, fun h => ?_, fun h => ?_, G3.out.1, G3.out.2.1, G3.out.2.2.1, G3.out.2.2.2⟩
            · have hz : (putP st p).2 = 0 := by rw [← HER.out.1]; exact h
              refine ⟨hC, by rw [HER.out.2 hz]; exact put_ok hok p, a + p.size + 1, ?_⟩
              rw [hrun, HER.out.2 hz]
              exact runP_step HP.out hz
            · have hz : (putP st p).2 ≠ 0 := by rw [← HER.out.1]; exact h
              unfold withR
              rw [if_pos hC, hrun, runP_stop HP.out hz, ← HER.out.1]
              unfold doneR
              rw [if_neg h]
      · obtain rfl : k = n := by omega
        go_wp2_with (fail)
        have hoks := (H.out.1 HE.out).2.1
        refine (rwhole st hoks _).mono ?_
        rintro e W2 ⟨rfl, h2⟩
        clear c0 c1 c2 c3 c4 c5 c6 c7 c8 c9 s0 s1 z0 z1 z2 z3 z4 z5 z6 z7 z8 z9 q0 q1 q2 q3 q4 q5 q6 q7 q8 q9 q qn hoks
        have K := Lib.hid (And.intro (H.out.2.2.1.call h2) (And.intro (H.out.2.2.2.2.1.call h2) (gr_call H.out.2.2.2.2.2 h2)))
        clear h2
        have hz2 := K.out.2.1.lt
        obtain ⟨e2, her⟩ : ∃ e2, e2 = wholeP st := ⟨_, rfl⟩
        have hr : Hid (withR f (namesL G k) = ((if e2 = 0 then st.f else zeroF), e2)) := Lib.hid (by
          obtain ⟨hC, hok, a, hrun⟩ := H.out.1 HE.out
          unfold withR
          rw [if_pos hC, hrun, runP_end (by rw [names_len]; exact Nat.le_refl _), done_end, ← her])
        rw [← her]
        clear her
        have z0 : W2.cell? ⟨w.heap.size + 1, 0, none⟩ = some (.bool false) := K.out.2.1.cell' (i := 0) rfl
        have z1 : W2.cell? ⟨w.heap.size + 1, 1, none⟩ = some (.bool false) := K.out.2.1.cell' (i := 1) rfl
        have z2 : W2.cell? ⟨w.heap.size + 1, 2, none⟩ = some (.bool false) := K.out.2.1.cell' (i := 2) rfl
        have z3 : W2.cell? ⟨w.heap.size + 1, 3, none⟩ = some (.bool false) := K.out.2.1.cell' (i := 3) rfl
        have z4 : W2.cell? ⟨w.heap.size + 1, 4, none⟩ = some (.bool false) := K.out.2.1.cell' (i := 4) rfl
        have z5 : W2.cell? ⟨w.heap.size + 1, 5, none⟩ = some (.bool false) := K.out.2.1.cell' (i := 5) rfl
        have z6 : W2.cell? ⟨w.heap.size + 1, 6, none⟩ = some (.bool false) := K.out.2.1.cell' (i := 6) rfl
        have z7 : W2.cell? ⟨w.heap.size + 1, 7, none⟩ = some (.bool false) := K.out.2.1.cell' (i := 7) rfl
        have z8 : W2.cell? ⟨w.heap.size + 1, 8, none⟩ = some (.int .i64 0) := K.out.2.1.cell' (i := 8) rfl
        have z9 : W2.cell? ⟨w.heap.size + 1, 9, none⟩ = some (.int .i64 0) := K.out.2.1.cell' (i := 9) rfl
        have q0 := K.out.2.1.frozen 0
        have q1 := K.out.2.1.frozen 1
        have q2 := K.out.2.1.frozen 2
        have q3 := K.out.2.1.frozen 3
        have q4 := K.out.2.1.frozen 4
        have q5 := K.out.2.1.frozen 5
        have q6 := K.out.2.1.frozen 6
        have q7 := K.out.2.1.frozen 7
        have q8 := K.out.2.1.frozen 8
        have q9 := K.out.2.1.frozen 9
        by_cases he2 : e2 = 0
        · have q : (e2 != 0) = false := by simp; exact he2
          have HE2 := Lib.hid he2
          clear he2
          have c0 : W2.cell? ⟨w.heap.size, 0, none⟩ = some (.bool st.f.last) := K.out.1.cell' (i := 0) rfl
          have c1 : W2.cell? ⟨w.heap.size, 1, none⟩ = some (.bool st.f.next) := K.out.1.cell' (i := 1) rfl
          have c2 : W2.cell? ⟨w.heap.size, 2, none⟩ = some (.bool st.f.chain) := K.out.1.cell' (i := 2) rfl
          have c3 : W2.cell? ⟨w.heap.size, 3, none⟩ = some (.bool st.f.fin) := K.out.1.cell' (i := 3) rfl
          have c4 : W2.cell? ⟨w.heap.size, 4, none⟩ = some (.bool st.f.forb) := K.out.1.cell' (i := 4) rfl
          have c5 : W2.cell? ⟨w.heap.size, 5, none⟩ = some (.bool st.f.gone) := K.out.1.cell' (i := 5) rfl
          have c6 : W2.cell? ⟨w.heap.size, 6, none⟩ = some (.bool st.f.app) := K.out.1.cell' (i := 6) rfl
          have c7 : W2.cell? ⟨w.heap.size, 7, none⟩ = some (.bool st.f.disc) := K.out.1.cell' (i := 7) rfl
          have c8 : W2.cell? ⟨w.heap.size, 8, none⟩ = some (.int .i64 st.f.skip) := K.out.1.cell' (i := 8) rfl
          have c9 : W2.cell? ⟨w.heap.size, 9, none⟩ = some (.int .i64 st.f.red) := K.out.1.cell' (i := 9) rfl
          go_wp2_with (fail)
          refine bodyPost_ret (rwith_res (w.heap.size + 1) st.f 0 _ _ rfl rfl (lay10_same K.out.2.1 rfl _ _ _ _ _ _ _ _ _ _)) rfl ?_
          exact ⟨by rw [hr.out, if_pos HE2.out, HE2.out], K.out.2.2.trans ((lay10_x (BelowX.refl w.heap.size (w.heap.size + 1) W2) _ _ _ _ _ _ _ _ _ _).below (Nat.le_refl _) (by omega))⟩
        · have q : (e2 != 0) = true := by simp; exact he2
          have HE2 := Lib.hid he2
          clear he2
          go_wp2_with (fail)
          refine bodyPost_ret (rwith_res (w.heap.size + 1) zeroF e2 _ _ rfl rfl (lay10_same K.out.2.1 rfl _ _ _ _ _ _ _ _ _ _)) rfl ?_
          exact ⟨by rw [hr.out, if_neg HE2.out], K.out.2.2.trans ((lay10_x (BelowX.refl w.heap.size (w.heap.size + 1) W2) _ _ _ _ _ _ _ _ _ _).below (Nat.le_refl _) (by omega))⟩
    · have q : (er == 0) = false := by simp; exact he
      have qn : (er != 0) = true := by simp; exact he
      have hr := Lib.hid (H.out.2.1 he)
      have K : Hid (Blk wr w.heap.size 24 #[Value.bool st.f.last, .bool st.f.next, .bool st.f.chain, .bool st.f.fin, .bool st.f.forb, .bool st.f.gone, .bool st.f.app, .bool st.f.disc, .int .i64 st.f.skip, .int .i64 st.f.red] ∧ Blk wr (w.heap.size + 1) 24 #[Value.bool zeroF.last, .bool zeroF.next, .bool zeroF.chain, .bool zeroF.fin, .bool zeroF.forb, .bool zeroF.gone, .bool zeroF.app, .bool zeroF.disc, .int .i64 zeroF.skip, .int .i64 zeroF.red] ∧ Below w.heap.size w wr) := Lib.hid ⟨H.out.2.2.1, H.out.2.2.2.2.1, H.out.2.2.2.2.2⟩
      clear he c0 c1 c2 c3 c4 c5 c6 c7 c8 c9 s0 s1
      by_cases hlt : k < n
      all_goals
        go_wp2_with (fail)
        refine bodyPost_ret (rwith_res (w.heap.size + 1) zeroF er _ _ rfl rfl (lay10_same K.out.2.1 rfl _ _ _ _ _ _ _ _ _ _)) rfl ?_
        exact ⟨by rw [hr.out], K.out.2.2.trans ((lay10_x (BelowX.refl w.heap.size (w.heap.size + 1) wr) _ _ _ _ _ _ _ _ _ _).below (Nat.le_refl _) (by omega))⟩
end Go.Proofs.YtlipjagdlpkjpaaDoor
