/-
  flag.With, walked; conditions: the two tables lie as they are laid, a variable of the library is an int.
-/
import Derived.Test.YtlipjagdlpkjpaaDoorFtH
import Derived.Test.YtlipjagdlpkjpaaDoorRow
namespace Go.Proofs.YtlipjagdlpkjpaaDoor
open Go.RowKit
set_option linter.unusedVariables false
set_option linter.unusedSimpArgs false

/-- Names that came in. -/
def strAt (G : Nat → ByteArray) : Nat → Nat → Value := fun i _ => .string (G i)
def namesL (G : Nat → ByteArray) (n : Nat) : List ByteArray := (List.range n).map G
def putOf (f : Flg) : Put := ⟨f, f.skip != 0, f.red != 0⟩
/-- Flags with others, or the error. -/
def withR (f : Flg) (L : List ByteArray) : Flg × Int := if chkF f = 0 then ((doneR (runP L (putOf f) 1)).1, (doneR (runP L (putOf f) 1)).2.1) else (zeroF, chkF f)
theorem names_at {G : Nat → ByteArray} {n k : Nat} (h : k < n) : (namesL G n)[k]? = some (G k) := by
  unfold namesL; rw [List.getElem?_map, List.getElem?_range h]; rfl
theorem names_len (G : Nat → ByteArray) (n : Nat) : (namesL G n).length = n := by unfold namesL; simp
def WithPost (w : World) (r : Flg × Int) (e : Ending) (W' : World) : Prop := e = .returned (.tuple #[Value.agg #[Value.bool r.1.last, .bool r.1.next, .bool r.1.chain, .bool r.1.fin, .bool r.1.forb, .bool r.1.gone, .bool r.1.app, .bool r.1.disc, .int .i64 r.1.skip, .int .i64 r.1.red], .int .i64 r.2]) ∧ Below w.heap.size w W'
def FlgOk (f : Flg) : Prop := (-9223372036854775808 ≤ f.skip ∧ f.skip ≤ 9223372036854775807) ∧ (-9223372036854775808 ≤ f.red ∧ f.red ≤ 9223372036854775807)
set_option maxRecDepth 100000 in
set_option maxHeartbeats 400000 in
theorem with_res (A : Nat) (f : Flg) (er : Int) (tmps : Array Value) (w : World) (h4 : tmps.getD 4 undef = .pointer (some ⟨A, 0, none⟩)) (h5 : tmps.getD 5 undef = .int .i64 er)
    (hA : Blk w A 24 #[Value.bool f.last, .bool f.next, .bool f.chain, .bool f.fin, .bool f.forb, .bool f.gone, .bool f.app, .bool f.disc, .int .i64 f.skip, .int .i64 f.red]) :
    (results Tryd.f23 tmps).run Tryd.prog w = .ok (.tuple #[Value.agg #[Value.bool f.last, .bool f.next, .bool f.chain, .bool f.fin, .bool f.forb, .bool f.gone, .bool f.app, .bool f.disc, .int .i64 f.skip, .int .i64 f.red], .int .i64 er]) w := by
  have a0 := hA.cell' (i := 0) rfl
  have a1 := hA.cell' (i := 1) rfl
  have a2 := hA.cell' (i := 2) rfl
  have a3 := hA.cell' (i := 3) rfl
  have a4 := hA.cell' (i := 4) rfl
  have a5 := hA.cell' (i := 5) rfl
  have a6 := hA.cell' (i := 6) rfl
  have a7 := hA.cell' (i := 7) rfl
  have a8 := hA.cell' (i := 8) rfl
  have a9 := hA.cell' (i := 9) rfl
  simp only [List.getElem_toArray, List.getElem_cons_zero, List.getElem_cons_succ] at a0 a1 a2 a3 a4 a5 a6 a7 a8 a9
  clear hA
  simp only [Array.getD_eq_getD_getElem?] at h4 h5
  simp [results, Tryd.results23, go_sem, h4, h5, a0, a1, a2, a3, a4, a5, a6, a7, a8, a9]
def WithRel (f : Flg) (L : List ByteArray) (N B : Nat) (w : World) (n : Nat) (i : Value) (wr : World) : Prop :=
  ∃ (k : Nat) (st : Put) (a : Nat), n + k = L.length ∧ i = .int .i64 (k : Int) ∧ PutOk st ∧ runP L (putOf f) 1 = runP (L.drop k) st a ∧ Blk wr B 51 (putC st) ∧ Blk wr (N + 1) 24 #[Value.bool zeroF.last, .bool zeroF.next, .bool zeroF.chain, .bool zeroF.fin, .bool zeroF.forb, .bool zeroF.gone, .bool zeroF.app, .bool zeroF.disc, .int .i64 zeroF.skip, .int .i64 zeroF.red] ∧ Below N w wr

set_option maxRecDepth 100000 in
set_option maxHeartbeats 2000000 in
theorem fwith (f : Flg) (hok : FlgOk f) (G : Nat → ByteArray) (A : Option Addr) (n c : Nat) (hn : n ≤ 1000000) (hG : ∀ i, i < n → (G i).size ≤ 1000000) (w : World) (hT : Tabs w) (hm : MaxOk w) (hA : Cells w A 1 n (strAt G)) :
    Calls Tryd.prog 23 #[Value.agg #[Value.bool f.last, .bool f.next, .bool f.chain, .bool f.fin, .bool f.forb, .bool f.gone, .bool f.app, .bool f.disc, .int .i64 f.skip, .int .i64 f.red], .slice A n c] w (WithPost w (withR f (namesL G n))) := by
  have HT := Lib.hid (And.intro hT (And.intro hm (And.intro hA (And.intro hG hok))))
  have i0 := gr_alloc (gr_alloc (Below.refl w.heap.size w) (.cells #[Value.bool f.last, .bool f.next, .bool f.chain, .bool f.fin, .bool f.forb, .bool f.gone, .bool f.app, .bool f.disc, .int .i64 f.skip, .int .i64 f.red] 24)) (.cells #[Value.bool zeroF.last, .bool zeroF.next, .bool zeroF.chain, .bool zeroF.fin, .bool zeroF.forb, .bool zeroF.gone, .bool zeroF.app, .bool zeroF.disc, .int .i64 zeroF.skip, .int .i64 zeroF.red] 24)
  have f0 := (Blk.new w 24 #[Value.bool f.last, .bool f.next, .bool f.chain, .bool f.fin, .bool f.forb, .bool f.gone, .bool f.app, .bool f.disc, .int .i64 f.skip, .int .i64 f.red]).alloc (.cells #[Value.bool zeroF.last, .bool zeroF.next, .bool zeroF.chain, .bool zeroF.fin, .bool zeroF.forb, .bool zeroF.gone, .bool zeroF.app, .bool zeroF.disc, .int .i64 zeroF.skip, .int .i64 zeroF.red] 24)
  have f1 := Blk.new (w.alloc (.cells #[Value.bool f.last, .bool f.next, .bool f.chain, .bool f.fin, .bool f.forb, .bool f.gone, .bool f.app, .bool f.disc, .int .i64 f.skip, .int .i64 f.red] 24)) 24 #[Value.bool zeroF.last, .bool zeroF.next, .bool zeroF.chain, .bool zeroF.fin, .bool zeroF.forb, .bool zeroF.gone, .bool zeroF.app, .bool zeroF.disc, .int .i64 zeroF.skip, .int .i64 zeroF.red]
  rw [show (w.alloc (.cells #[Value.bool f.last, .bool f.next, .bool f.chain, .bool f.fin, .bool f.forb, .bool f.gone, .bool f.app, .bool f.disc, .int .i64 f.skip, .int .i64 f.red] 24)).heap.size = w.heap.size + 1 by simp] at f1
  have H0 := Lib.hid (And.intro f0 (And.intro f1 i0))
  clear hT hm hA hG hok f0 f1 i0
  go_enter Tryd.func23, Tryd.ntmps23
  go_wp2_with (fail)
  refine (fcheck f HT.out.2.2.2.2.1 _ (HT.out.1.below H0.out.2.2 (Nat.le_refl _))).mono ?_
  rintro e W1 ⟨rfl, h1⟩
  have H1 := Lib.hid (And.intro (H0.out.1.call h1) (And.intro (H0.out.2.1.call h1) (gr_call H0.out.2.2 h1)))
  clear h1 H0
  obtain ⟨ce, hce⟩ : ∃ ce, ce = chkF f := ⟨_, rfl⟩
  have HC := Lib.hid hce
  rw [← hce]
  clear hce
  have k0 : W1.cell? ⟨w.heap.size, 0, none⟩ = some (.bool f.last) := H1.out.1.cell' (i := 0) rfl
  have k1 : W1.cell? ⟨w.heap.size, 1, none⟩ = some (.bool f.next) := H1.out.1.cell' (i := 1) rfl
  have k2 : W1.cell? ⟨w.heap.size, 2, none⟩ = some (.bool f.chain) := H1.out.1.cell' (i := 2) rfl
  have k3 : W1.cell? ⟨w.heap.size, 3, none⟩ = some (.bool f.fin) := H1.out.1.cell' (i := 3) rfl
  have k4 : W1.cell? ⟨w.heap.size, 4, none⟩ = some (.bool f.forb) := H1.out.1.cell' (i := 4) rfl
  have k5 : W1.cell? ⟨w.heap.size, 5, none⟩ = some (.bool f.gone) := H1.out.1.cell' (i := 5) rfl
  have k6 : W1.cell? ⟨w.heap.size, 6, none⟩ = some (.bool f.app) := H1.out.1.cell' (i := 6) rfl
  have k7 : W1.cell? ⟨w.heap.size, 7, none⟩ = some (.bool f.disc) := H1.out.1.cell' (i := 7) rfl
  have k8 : W1.cell? ⟨w.heap.size, 8, none⟩ = some (.int .i64 f.skip) := H1.out.1.cell' (i := 8) rfl
  have k9 : W1.cell? ⟨w.heap.size, 9, none⟩ = some (.int .i64 f.red) := H1.out.1.cell' (i := 9) rfl
  have klt := H1.out.2.1.lt
  have z0 : W1.cell? ⟨w.heap.size + 1, 0, none⟩ = some (.bool false) := H1.out.2.1.cell' (i := 0) rfl
  have z1 : W1.cell? ⟨w.heap.size + 1, 1, none⟩ = some (.bool false) := H1.out.2.1.cell' (i := 1) rfl
  have z2 : W1.cell? ⟨w.heap.size + 1, 2, none⟩ = some (.bool false) := H1.out.2.1.cell' (i := 2) rfl
  have z3 : W1.cell? ⟨w.heap.size + 1, 3, none⟩ = some (.bool false) := H1.out.2.1.cell' (i := 3) rfl
  have z4 : W1.cell? ⟨w.heap.size + 1, 4, none⟩ = some (.bool false) := H1.out.2.1.cell' (i := 4) rfl
  have z5 : W1.cell? ⟨w.heap.size + 1, 5, none⟩ = some (.bool false) := H1.out.2.1.cell' (i := 5) rfl
  have z6 : W1.cell? ⟨w.heap.size + 1, 6, none⟩ = some (.bool false) := H1.out.2.1.cell' (i := 6) rfl
  have z7 : W1.cell? ⟨w.heap.size + 1, 7, none⟩ = some (.bool false) := H1.out.2.1.cell' (i := 7) rfl
  have z8 : W1.cell? ⟨w.heap.size + 1, 8, none⟩ = some (.int .i64 0) := H1.out.2.1.cell' (i := 8) rfl
  have z9 : W1.cell? ⟨w.heap.size + 1, 9, none⟩ = some (.int .i64 0) := H1.out.2.1.cell' (i := 9) rfl
  have q0 := H1.out.2.1.frozen 0
  have q1 := H1.out.2.1.frozen 1
  have q2 := H1.out.2.1.frozen 2
  have q3 := H1.out.2.1.frozen 3
  have q4 := H1.out.2.1.frozen 4
  have q5 := H1.out.2.1.frozen 5
  have q6 := H1.out.2.1.frozen 6
  have q7 := H1.out.2.1.frozen 7
  have q8 := H1.out.2.1.frozen 8
  have q9 := H1.out.2.1.frozen 9
  by_cases hc0 : ce = 0
  · have q : (ce != 0) = false := by simp; exact hc0
    clear z0 z1 z2 z3 z4 z5 z6 z7 z8 z9 q0 q1 q2 q3 q4 q5 q6 q7 q8 q9
    have HZ := Lib.hid hc0
    clear hc0
    go_wp2_with (fail)
    have hst : WithRel f (namesL G n) w.heap.size W1.heap.size w n (.int .i64 0) (W1.alloc (.cells (putC (putOf f)) 51)) :=
      ⟨0, putOf f, 1, by rw [names_len, Nat.add_zero], rfl, HT.out.2.2.2.2, rfl, Blk.new _ _ _, H1.out.2.1.alloc _, H1.out.2.2.alloc H1.out.2.2.size _⟩
    have HST := Lib.hid hst
    have HW := Lib.hid (And.intro H1.out.2.1.lt H1.out.2.2.size)
    have hwz := H1.out.2.2.size
    clear hst k0 k1 k2 k3 k4 k5 k6 k7 k8 k9 klt H1
    go_loopg [28] n (fun m i wr => WithRel f (namesL G n) w.heap.size W1.heap.size w m i wr)
    case atStart => exact HST.out
    case round =>
      clear HST
      obtain ⟨k, st, a, hk, rfl, hok, hrun, hbB, hbZ, hbel⟩ := hrel
      rw [names_len] at hk
      have hbz := hbel.size
      have hlB := hbB.lt
      by_cases hlt : k < n
      · obtain ⟨ab, ao, rfl, had, hcl⟩ := HT.out.2.2.1.below ((Below.mono hbel (Nat.le_refl _))) (by omega)
        have hc : wr.cell? ⟨ab, ao + k, none⟩ = some (.string (G k)) := by have h1 := hcl k 0 hlt (by decide); rw [Nat.mul_one, Nat.add_zero] at h1; exact h1
        have H := Lib.hid (And.intro hrun (And.intro hbB (And.intro hbZ (And.intro hbel hok))))
        have HM2 := Lib.hid (HT.out.2.1.below hbel (Nat.le_refl _))
        clear hrun hbB hbZ hbel hok hcl
        obtain ⟨p, hp⟩ : ∃ p, p = G k := ⟨_, rfl⟩
        have hps : p.size ≤ 1000000 := by rw [hp]; exact HT.out.2.2.2.1 k hlt
        have HP : Hid ((namesL G n)[k]? = some p) := Lib.hid (by rw [hp]; exact names_at hlt)
        rw [← hp] at hc
        clear hp
        go_wp2_with (fail)
        refine (fpart W1.heap.size st p hps _ HM2.out H.out.2.1).mono ?_
        rintro e W2 ⟨rfl, hb2, hx2⟩
        have hZ2 := hx2.blk H.out.2.2.1 (by have := H.out.2.2.1.lt; omega) (by have := HW.out.1; omega)
        have hbel2 := H.out.2.2.2.1.trans (hx2.below hbz (by omega))
        obtain ⟨er, her⟩ : ∃ er, er = (putP st p).2 := ⟨_, rfl⟩
        have K := Lib.hid (And.intro hb2 (And.intro hZ2 (And.intro hbel2 her)))
        clear hb2 hx2 hZ2 hbel2 hc
        rw [← her]
        clear her
        have hz2 := K.out.2.1.lt
        by_cases he : er = 0
        · have q : (er != 0) = false := by simp; exact he
          have HE := Lib.hid he
          clear he
          go_wp2_with (fail)
          go_roundg (n - (k + 1))
          case measure => omega
          case rel =>
            have hz : (putP st p).2 = 0 := K.out.2.2.2.symm.trans HE.out
            refine ⟨k + 1, (putP st p).1, a + p.size + 1, by rw [names_len]; omega, by go_num, put_ok H.out.2.2.2.2 p, ?_, K.out.1, K.out.2.1, K.out.2.2.1⟩
            rw [H.out.1]
            exact runP_step HP.out hz
        · have q : (er != 0) = true := by simp; exact he
          have HE := Lib.hid he
          have hr : Hid (withR f (namesL G n) = (zeroF, er)) := Lib.hid (by unfold withR; rw [if_pos (by rw [← HC.out]; exact HZ.out), H.out.1, runP_stop HP.out (by rw [← K.out.2.2.2]; exact he), ← K.out.2.2.2]; unfold doneR; rw [if_neg he])
          clear he
          have z0 : W2.cell? ⟨w.heap.size + 1, 0, none⟩ = some (.bool false) := K.out.2.1.cell' (i := 0) rfl
          have z1 : W2.cell? ⟨w.heap.size + 1, 1, none⟩ = some (.bool false) := K.out.2.1.cell' (i := 1) rfl
          have z2 : W2.cell? ⟨w.heap.size + 1, 2, none⟩ = some (.bool false) := K.out.2.1.cell' (i := 2) rfl
          have z3 : W2.cell? ⟨w.heap.size + 1, 3, none⟩ = some (.bool false) := K.out.2.1.cell' (i := 3) rfl
          have z4 : W2.cell? ⟨w.heap.size + 1, 4, none⟩ = some (.bool false) := K.out.2.1.cell' (i := 4) rfl
          have z5 : W2.cell? ⟨w.heap.size + 1, 5, none⟩ = some (.bool false) := K.out.2.1.cell' (i := 5) rfl
          have z6 : W2.cell? ⟨w.heap.size + 1, 6, none⟩ = some (.bool false) := K.out.2.1.cell' (i := 6) rfl
          have z7 : W2.cell? ⟨w.heap.size + 1, 7, none⟩ = some (.bool false) := K.out.2.1.cell' (i := 7) rfl
          have z8 : W2.cell? ⟨w.heap.size + 1, 8, none⟩ = some (.int .i64 0) := K.out.2.1.cell' (i := 8) rfl
          have z9 : W2.cell? ⟨w.heap.size + 1, 9, none⟩ = some (.int .i64 0) := K.out.2.1.cell' (i := 9) rfl
          have q0 := K.out.2.1.frozen 0
          have q1 := K.out.2.1.frozen 1
          have q2 := K.out.2.1.frozen 2
          have q3 := K.out.2.1.frozen 3
          have q4 := K.out.2.1.frozen 4
          have q5 := K.out.2.1.frozen 5
          have q6 := K.out.2.1.frozen 6
          have q7 := K.out.2.1.frozen 7
          have q8 := K.out.2.1.frozen 8
          have q9 := K.out.2.1.frozen 9
          go_wp2_with (fail)
          refine bodyPost_ret (with_res (w.heap.size + 1) zeroF er _ _ rfl rfl (lay10_same K.out.2.1 rfl _ _ _ _ _ _ _ _ _ _)) rfl ?_
          exact ⟨by rw [hr.out], K.out.2.2.1.trans ((lay10_x (BelowX.refl w.heap.size (w.heap.size + 1) W2) _ _ _ _ _ _ _ _ _ _).below (Nat.le_refl _) (by omega))⟩
      · obtain rfl : k = n := by omega
        have HT2 := Lib.hid (HT.out.1.below hbel (Nat.le_refl _))
        have H := Lib.hid (And.intro hrun (And.intro hbB (And.intro hbZ (And.intro hbel hok))))
        clear hrun hbB hbZ hbel hok
        go_wp2_with (fail)
        refine (fcheckB W1.heap.size st H.out.2.2.2.2 _ HT2.out H.out.2.1).mono ?_
        rintro e W2 ⟨rfl, h2⟩
        have K := Lib.hid (And.intro (H.out.2.1.call h2) (And.intro (H.out.2.2.1.call h2) (gr_call H.out.2.2.2.1 h2)))
        clear h2
        have hz2 := K.out.2.1.lt
        have hz3 := K.out.1.lt
        obtain ⟨er, her⟩ : ∃ er, er = wholeP st := ⟨_, rfl⟩
        have hr : Hid (withR f (namesL G k) = ((if er = 0 then st.f else zeroF), er)) := Lib.hid (by unfold withR; rw [if_pos (by rw [← HC.out]; exact HZ.out), H.out.1, runP_end (by rw [names_len]; exact Nat.le_refl _), done_end, ← her])
        rw [← her]
        clear her
        have z0 : W2.cell? ⟨w.heap.size + 1, 0, none⟩ = some (.bool false) := K.out.2.1.cell' (i := 0) rfl
        have z1 : W2.cell? ⟨w.heap.size + 1, 1, none⟩ = some (.bool false) := K.out.2.1.cell' (i := 1) rfl
        have z2 : W2.cell? ⟨w.heap.size + 1, 2, none⟩ = some (.bool false) := K.out.2.1.cell' (i := 2) rfl
        have z3 : W2.cell? ⟨w.heap.size + 1, 3, none⟩ = some (.bool false) := K.out.2.1.cell' (i := 3) rfl
        have z4 : W2.cell? ⟨w.heap.size + 1, 4, none⟩ = some (.bool false) := K.out.2.1.cell' (i := 4) rfl
        have z5 : W2.cell? ⟨w.heap.size + 1, 5, none⟩ = some (.bool false) := K.out.2.1.cell' (i := 5) rfl
        have z6 : W2.cell? ⟨w.heap.size + 1, 6, none⟩ = some (.bool false) := K.out.2.1.cell' (i := 6) rfl
        have z7 : W2.cell? ⟨w.heap.size + 1, 7, none⟩ = some (.bool false) := K.out.2.1.cell' (i := 7) rfl
        have z8 : W2.cell? ⟨w.heap.size + 1, 8, none⟩ = some (.int .i64 0) := K.out.2.1.cell' (i := 8) rfl
        have z9 : W2.cell? ⟨w.heap.size + 1, 9, none⟩ = some (.int .i64 0) := K.out.2.1.cell' (i := 9) rfl
        have q0 := K.out.2.1.frozen 0
        have q1 := K.out.2.1.frozen 1
        have q2 := K.out.2.1.frozen 2
        have q3 := K.out.2.1.frozen 3
        have q4 := K.out.2.1.frozen 4
        have q5 := K.out.2.1.frozen 5
        have q6 := K.out.2.1.frozen 6
        have q7 := K.out.2.1.frozen 7
        have q8 := K.out.2.1.frozen 8
        have q9 := K.out.2.1.frozen 9
        by_cases he : er = 0
        · have q : (er != 0) = false := by simp; exact he
          have HE := Lib.hid he
          clear he
          have b0 : W2.cell? ⟨W1.heap.size, 0, none⟩ = some (.bool st.f.last) := K.out.1.cell' (i := 0) rfl
          have b1 : W2.cell? ⟨W1.heap.size, 1, none⟩ = some (.bool st.f.next) := K.out.1.cell' (i := 1) rfl
          have b2 : W2.cell? ⟨W1.heap.size, 2, none⟩ = some (.bool st.f.chain) := K.out.1.cell' (i := 2) rfl
          have b3 : W2.cell? ⟨W1.heap.size, 3, none⟩ = some (.bool st.f.fin) := K.out.1.cell' (i := 3) rfl
          have b4 : W2.cell? ⟨W1.heap.size, 4, none⟩ = some (.bool st.f.forb) := K.out.1.cell' (i := 4) rfl
          have b5 : W2.cell? ⟨W1.heap.size, 5, none⟩ = some (.bool st.f.gone) := K.out.1.cell' (i := 5) rfl
          have b6 : W2.cell? ⟨W1.heap.size, 6, none⟩ = some (.bool st.f.app) := K.out.1.cell' (i := 6) rfl
          have b7 : W2.cell? ⟨W1.heap.size, 7, none⟩ = some (.bool st.f.disc) := K.out.1.cell' (i := 7) rfl
          have b8 : W2.cell? ⟨W1.heap.size, 8, none⟩ = some (.int .i64 st.f.skip) := K.out.1.cell' (i := 8) rfl
          have b9 : W2.cell? ⟨W1.heap.size, 9, none⟩ = some (.int .i64 st.f.red) := K.out.1.cell' (i := 9) rfl
          go_wp2_with (fail)
          refine bodyPost_ret (with_res (w.heap.size + 1) st.f 0 _ _ rfl rfl (lay10_same K.out.2.1 rfl _ _ _ _ _ _ _ _ _ _)) rfl ?_
          exact ⟨by rw [hr.out, if_pos HE.out, HE.out], K.out.2.2.trans ((lay10_x (BelowX.refl w.heap.size (w.heap.size + 1) W2) _ _ _ _ _ _ _ _ _ _).below (Nat.le_refl _) (by omega))⟩
        · have q : (er != 0) = true := by simp; exact he
          have HE := Lib.hid he
          clear he
          go_wp2_with (fail)
          refine bodyPost_ret (with_res (w.heap.size + 1) zeroF er _ _ rfl rfl (lay10_same K.out.2.1 rfl _ _ _ _ _ _ _ _ _ _)) rfl ?_
          exact ⟨by rw [hr.out, if_neg HE.out], K.out.2.2.trans ((lay10_x (BelowX.refl w.heap.size (w.heap.size + 1) W2) _ _ _ _ _ _ _ _ _ _).below (Nat.le_refl _) (by omega))⟩
  · have q : (ce != 0) = true := by simp; exact hc0
    have ht : Hid (withR f (namesL G n) = (zeroF, ce)) := Lib.hid (by unfold withR; rw [if_neg (by rw [← HC.out]; exact hc0), HC.out])
    clear hc0 k0 k1 k2 k3 k4 k5 k6 k7 k8 k9
    go_wp2_with (fail)
    refine bodyPost_ret (with_res (w.heap.size + 1) zeroF ce _ _ rfl rfl (lay10_same H1.out.2.1 rfl _ _ _ _ _ _ _ _ _ _)) rfl ?_
    exact ⟨by rw [ht.out], H1.out.2.2.trans ((lay10_x (BelowX.refl W1.heap.size (w.heap.size + 1) W1) _ _ _ _ _ _ _ _ _ _).below (by have := H1.out.2.2.size; omega) (by omega))⟩
end Go.Proofs.YtlipjagdlpkjpaaDoor
