/-
  scc.Heaviest, walked; conditions: at most 1000000 edges.
-/
import Derived.Test.YtjgkiiohbceocaaSdF
import Derived.Test.YtjgkiiohbceocaaShelf
import Derived.BigQuiet
namespace Go.Proofs.Ytjgkiiohbceocaa
open Go.RowKit
set_option linter.unusedVariables false
set_option linter.unusedSimpArgs false

theorem bad_code (x : Int) (w : World) :
    Calls Try.prog 48 #[.int .i64 x] w fun e w' => e = .returned (.bool (badW x)) ∧ ∃ q, w' = w.drewN q := by
  by_cases h0 : x < 0
  · have hb : badW x = true := by unfold badW; rw [decide_eq_true h0]; rfl
    rw [hb]
    go_enter Try.func48, Try.ntmps48
    go_wp2
    go_ret
    exact ⟨rfl, 0, rfl⟩
  · by_cases h1 : x > 1000
    · have hb : badW x = true := by unfold badW; rw [decide_eq_true (show 1000 < x from h1)]; simp
      rw [hb]
      go_enter Try.func48, Try.ntmps48
      go_wp2
      go_ret
      exact ⟨rfl, 0, rfl⟩
    · have hb : badW x = false := by unfold badW; rw [decide_eq_false h0, decide_eq_false (show ¬ 1000 < x from h1)]; rfl
      rw [hb]
      go_enter Try.func48, Try.ntmps48
      go_wp2
      go_ret
      exact ⟨rfl, 0, rfl⟩
theorem cont_code (wl : List Int) (v : Value) (w : World) (hv : CellsAt w v (intL wl)) (hl : wl.length ≤ 1000000) :
    Calls Try.prog 47 #[v, .func (.func 48) #[] #[]] w fun e w' => e = .returned (.bool (wl.any badW)) ∧ Below w.heap.size w w' := by
  obtain ⟨A, c, rfl, hc⟩ := hv.ex
  rw [intL_len] at *
  by_cases h0 : wl = []
  · subst h0
    refine (Try.slices_ContainsFunc_empty_f47 (α := Int) A c _ w).mono ?_
    rintro e w' ⟨h1, rfl⟩
    exact ⟨h1, Below.refl _ _⟩
  · obtain ⟨g, o, rfl, hg, hcc⟩ := hc (by intro h; apply h0; unfold intL at h; simpa using h)
    have eg : ∀ args w, (callFunc 48 args).run Try.prog w = .ok (.enter 48 args) w := enters_of Try.func48 (by kernel_rfl) rfl
    refine (Try.slices_ContainsFunc_f47 (Value.int .i64) badW 48 #[] eg g o wl.length c wl w (fun W x _ => bad_code x W) (Nat.le_refl _) (by omega) (fun j hj => hcc j _ ?_)).mono ?_
    · rw [intL_at (x := wl[j]!) (by rw [List.getElem?_eq_getElem hj, List.getElem!_eq_getElem?_getD, List.getElem?_eq_getElem hj]; rfl)]
    · rintro e w' ⟨h1, q, rfl⟩
      rw [List.take_length] at h1
      exact ⟨h1, below_drewN' (Below.refl _ _) q⟩

theorem ownN_mono {W : World} {B B' : Nat} {v : Value} {l : List Nat} (h : OwnN W B v l) (hB : B' ≤ B) : OwnN W B' v l := by
  refine ⟨h.1, ?_⟩
  rcases h.2 with h | ⟨g, cap, cur, h1, h2, h3⟩
  · exact .inl h
  · exact .inr ⟨g, cap, cur, h1, Nat.le_trans hB h2, h3⟩
theorem ownN_far {W : World} {B g i : Nat} {u v : Value} {l : List Nat} (h : OwnN W B v l) (hg : g < B) : OwnN (W.setCell ⟨g, i, none⟩ u) B v l :=
  own_blks h (fun k cs hk hb => hb.far (p := ⟨g, i, none⟩) (by show k ≠ g; omega) u)
/-- What Heaviest has in memory: own, best and the chains. -/
structure HvOk (W : World) (B gO gB gC m : Nat) (o : Nat → Nat) (H : Nat → Nat × List Nat) (lo : Nat) (V : Nat → Value) : Prop where
  own : Blk W gO 3 (numC m o)
  best : Blk W gB 3 (numC m fun k => (H k).1)
  ch : Blk W gC 25 (vecC m V)
  at_ : ∀ k, lo ≤ k → k < m → OwnN W B (V k) (H k).2
  lt : gO < B ∧ gB < B ∧ gC < B ∧ gO ≠ gB ∧ gO ≠ gC ∧ gB ≠ gC
  le : B ≤ W.heap.size
theorem HvOk.below {W W' : World} {B gO gB gC m lo : Nat} {o : Nat → Nat} {H : Nat → Nat × List Nat} {V : Nat → Value} (h : HvOk W B gO gB gC m o H lo V) (hb : Below W.heap.size W W') : HvOk W' B gO gB gC m o H lo V :=
  ⟨h.own.call hb, h.best.call hb, h.ch.call hb, fun k h1 h2 => own_below (h.at_ k h1 h2) hb (Nat.le_refl _), h.lt, Nat.le_trans h.le hb.size⟩
theorem HvOk.setOwn {W : World} {B gO gB gC m lo : Nat} {o : Nat → Nat} {H : Nat → Nat × List Nat} {V : Nat → Value} (h : HvOk W B gO gB gC m o H lo V) {i : Nat} (hi : i < m) (x : Nat) : HvOk (W.setCell ⟨gO, i, none⟩ (.int .i64 (x : Int))) B gO gB gC m (upd o i x) H lo V := by
  refine ⟨?_, h.best.far (p := ⟨gO, i, none⟩) (Ne.symm h.lt.2.2.2.1) _, h.ch.far (p := ⟨gO, i, none⟩) (Ne.symm h.lt.2.2.2.2.1) _, fun k h1 h2 => ownN_far (h.at_ k h1 h2) h.lt.1, h.lt, by simpa using h.le⟩
  rw [← numC_set (f := o) (g := upd o i x) hi (upd_same _ _ _) (fun j _ hj => upd_other _ _ hj)]
  exact h.own.set_ i _
theorem HvOk.put {W : World} {B gO gB gC m lo : Nat} {o : Nat → Nat} {H : Nat → Nat × List Nat} {V : Nat → Value} (h : HvOk W B gO gB gC m o H lo V) {i : Nat} (hi : i < m) (hlo : lo ≤ i + 1) (x : Nat) {u : Value} {ch : List Nat} (hu : OwnN W B u ch) :
    HvOk ((W.setCell ⟨gB, i, none⟩ (.int .i64 (x : Int))).setCell ⟨gC, i, none⟩ u) B gO gB gC m o (upd H i (x, ch)) i (upd V i u) := by
  refine ⟨(h.own.far (p := ⟨gB, i, none⟩) h.lt.2.2.2.1 _).far (p := ⟨gC, i, none⟩) h.lt.2.2.2.2.1 _, ?_, ?_, fun k h1 h2 => ?_, h.lt, by simpa using h.le⟩
  · rw [← numC_set (f := fun k => (H k).1) (g := fun k => (upd H i (x, ch) k).1) (k := i) (b := x) hi (by show (upd H i (x, ch) i).1 = x; rw [upd_same]) (fun j _ hj => by show (upd H i (x, ch) j).1 = (H j).1; rw [upd_other _ _ hj])]
    exact (h.best.set_ i _).far (p := ⟨gC, i, none⟩) h.lt.2.2.2.2.2 _
  · rw [← vecC_set (f := V) (g := upd V i u) hi (upd_same _ _ _) (fun j _ hj => upd_other _ _ hj)]
    exact (h.ch.far (p := ⟨gB, i, none⟩) (Ne.symm h.lt.2.2.2.2.2) _).set_ i _
  · by_cases e : k = i
    · subst e
      rw [upd_same, upd_same]
      exact ownN_far (ownN_far hu h.lt.2.1) h.lt.2.2.1
    · rw [upd_other _ _ e, upd_other _ _ e]
      exact ownN_far (ownN_far (h.at_ k (by omega) h2) h.lt.2.1) h.lt.2.2.1
theorem HvOk.congr {W : World} {B gO gB gC m lo : Nat} {o o' : Nat → Nat} {H H' : Nat → Nat × List Nat} {V : Nat → Value} (h : HvOk W B gO gB gC m o H lo V) (ho : ∀ k, k < m → o' k = o k) (hH : ∀ k, k < m → H' k = H k) : HvOk W B gO gB gC m o' H' lo V := by
  refine ⟨?_, ?_, h.ch, fun k h1 h2 => by rw [hH k h2]; exact h.at_ k h1 h2, h.lt, h.le⟩
  · rw [numC_congr (f := o') (g := o) (fun k hk => (ho k hk).symm)]; exact h.own
  · rw [numC_congr (f := fun k => (H' k).1) (g := fun k => (H k).1) (fun k hk => by rw [hH k hk])]; exact h.best
theorem pair_ne (i : Nat) {ch : List Nat} (h : ch ≠ []) : ∀ l ∈ [[i], ch], l ≠ [] := by
  intro l hl
  simp only [List.mem_cons, List.not_mem_nil, or_false] at hl
  rcases hl with rfl | rfl
  · simp
  · exact h
theorem pair_ll {W : World} {g g1 i : Nat} {ch : List Nat} {u : Value} (k1 : Blk W g1 3 #[.int .i64 (i : Int)]) (hg : Blk W g 25 #[.slice (some ⟨g1, 0, none⟩) 1 1, u]) (hu : NatsAt W u ch) : LLAt W (.slice (some ⟨g, 0, none⟩) 2 2) [[i], ch] := by
  refine ⟨some ⟨g, 0, none⟩, 2, rfl, fun _ => ⟨g, rfl, hg.lt, fun j l hj => ?_⟩⟩
  match j, hj with
  | 0, hj =>
    simp only [List.getElem?_cons_zero, Option.some.injEq] at hj
    subst hj
    refine ⟨_, hg.cell' rfl, ⟨some ⟨g1, 0, none⟩, 1, rfl, fun _ => ⟨g1, 0, rfl, k1.lt, fun q x hq => ?_⟩⟩⟩
    match q, hq with
    | 0, hq =>
      simp only [List.getElem?_cons_zero, Option.some.injEq] at hq
      subst hq
      exact k1.cell' rfl
  | 1, hj =>
    simp only [List.getElem?_cons_succ, List.getElem?_cons_zero, Option.some.injEq] at hj
    subst hj
    exact ⟨u, hg.cell' rfl, hu⟩

set_option maxRecDepth 100000 in
set_option maxHeartbeats 8000000 in
theorem heavy_ok (m : Nat) (hm : m ≤ 64) (l : List Edg) (hl : l.length ≤ 1000000) (hv : ∀ e ∈ l, okEd m e) (he : (chkG m l).1 = 0) (ht : Trans' (rea m (relE l))) (wl : List Int) (hwl : wl.length = m) (hbd : wl.any badW = false) (A : Option Addr) (c : Nat) (wv : Value) (w : World) (hA : Cells w A 2 l.length (edAt l)) (hW : CellsAt w wv (intL wl)) :
    Calls Try.prog 18 #[.agg #[.int .i64 (m : Int), .slice A l.length c], wv] w fun e w' => ∃ v, e = .returned (.tuple #[.int .i64 ((hvV m (relE l) wl (partsV m (rea m (relE l)))).1 : Int), v, .int .i64 0]) ∧ NatsAt w' v (hvV m (relE l) wl (partsV m (rea m (relE l)))).2 ∧ Below w.heap.size w w' := by
  have b0 := gr_alloc (Below.refl w.heap.size w) (.cells #[.int .i64 (m : Int), .slice A l.length c] 24)
  have hA0 := hA.below b0
  have hW0 := hW.below b0
  have hmd := made_code m hm l hl hv he A c _ hA0
  have hpw := parts_what ht hm
  have hlt : ∀ (i : Nat) (cc : List Nat) (x : Nat), (partsV m (rea m (relE l)))[i]? = some cc → x ∈ cc → x < m := by
    intro i cc x hc hx
    obtain ⟨r, hr, rfl⟩ := partsV_at hc
    exact (mem_mem.1 hx).1
  obtain ⟨ls, hls⟩ : ∃ ls, ls = partsV m (rea m (relE l)) := ⟨_, rfl⟩
  rw [← hls] at hpw hlt ⊢
  obtain ⟨E, hE⟩ : ∃ E, E = relE l := ⟨_, rfl⟩
  have hmd' : Calls Try.prog 43 #[.agg #[.int .i64 (m : Int), .slice A l.length c]] (w.alloc (.cells #[.int .i64 (m : Int), .slice A l.length c] 24)) fun e w' => ∃ bg bl pv kv, e = .returned (.tuple #[.pointer (some ⟨bg, 0, none⟩), .int .i64 0]) ∧ GrAt w' bg bl m E ls pv kv ∧ Below (w.alloc (.cells #[.int .i64 (m : Int), .slice A l.length c] 24)).heap.size (w.alloc (.cells #[.int .i64 (m : Int), .slice A l.length c] 24)) w' := by
    refine hmd.mono ?_
    rintro e w' ⟨bg, bl, pv, kv, h1, h2, h3⟩
    exact ⟨bg, bl, pv, kv, h1, by rw [hE, hls]; exact h2.at_, h3⟩
  rw [← hE]
  obtain ⟨ln, hln⟩ : ∃ ln, ln = l.length := ⟨_, rfl⟩
  rw [← hln] at hmd' b0 hW0 ⊢
  obtain ⟨WA, wc, hwv, hwx⟩ := hW0.ex
  rw [intL_len, hwl] at hwv
  subst hwv
  have hco := fun W hW' => cont_code wl (.slice WA m wc) W hW' (by omega)
  rw [hbd] at hco
  obtain ⟨np, hnp⟩ : ∃ np, np = ls.length := ⟨_, rfl⟩
  have hnp64 : np ≤ 64 := by rw [hnp]; exact hpw.1
  obtain ⟨own, hown⟩ : ∃ own, own = ownF wl ls := ⟨_, rfl⟩
  have ho : ∀ i, own i ≤ 1000 := fun i => by rw [hown]; exact ownF_le hbd ls i
  have hmk := fun W => mk_vec (t := 25) (z := .int .i64 0) Try.underlying25 infoInt rfl (by decide) np (by omega) W
  have hmk2 := fun W => mk_vec (t := 41) (z := .slice none 0 0) Try.underlying41 infoInts rfl (by decide) np (by omega) W
  have hV : hvV m E wl ls = match argM (fun i => (hvF np (edgP E ls) own i).1) np with | none => (0, []) | some a => hvF np (edgP E ls) own a := by
    rw [hnp, hown]; rfl
  have H := Lib.hid (And.intro b0 (And.intro hmd' (And.intro hW0 (And.intro hwx hco))))
  have M := Lib.hid (And.intro hpw (And.intro hlt (And.intro hnp (And.intro hown (And.intro ho (And.intro hV (And.intro hwl hbd)))))))
  clear b0 hmd hmd' hA0 hA hW hW0 hwx hco hE hln hl he hv hpw hlt hnp hown ho hV hls ht hwl hbd
  go_enter Try.func18, Try.ntmps18
  go_wp2_with (fail)
  refine H.out.2.1.mono ?_
  rintro e W1 ⟨bg, bl, pv, kv, rfl, hg, h2⟩
  have c1 := hg.gr.gr.cell' (i := 1) rfl
  have lg := hg.gr.gr.lt
  have D := Lib.hid (And.intro hg (And.intro (gr_call H.out.1 h2) (And.intro (H.out.2.2.2.2 W1 (H.out.2.2.1.below h2)) (H.out.2.2.1.below h2))))
  clear hg h2
  go_wp2_with (fail)
  refine D.out.2.2.1.mono ?_
  rintro e W2 ⟨rfl, h3⟩
  have hg2 := D.out.1.below h3
  obtain ⟨pA, pc, rfl, hex⟩ := hg2.ll.ex
  have c2 := hg2.gr.gr.cell' (i := 2) rfl
  rw [← M.out.2.2.1] at c2
  have lg2 := hg2.gr.gr.lt
  have N := Lib.hid (And.intro hg2 (And.intro (gr_call D.out.2.1 h3) (And.intro (D.out.2.2.2.below h3) hex)))
  clear hg2 h3 hex c1 lg
  go_wp2_with (fail)
  go_region
  · obtain ⟨X, hX⟩ : ∃ X, (((W2.alloc (.cells (vecC np fun x => .int .i64 0) 3)).alloc (.cells (vecC np fun x => .int .i64 0) 3)).drew) = X := ⟨_, rfl⟩
    have q0 : Blk X W2.heap.size 3 (numC np fun _ => 0) := by rw [← hX]; exact ((Blk.new W2 3 (numC np fun _ => 0)).alloc _).drew
    have q1 : Blk X (W2.heap.size + 1) 3 (numC np fun _ => 0) := by rw [← hX]; exact Blk.drew (blk_at (by simp))
    have bX : Below W2.heap.size W2 X := by rw [← hX]; exact gr_drew (gr_alloc (gr_alloc (Below.refl _ _) _) _)
    rw [hX]
    obtain ⟨gO, hgO⟩ : ∃ g, g = W2.heap.size := ⟨_, rfl⟩
    obtain ⟨gB, hgB⟩ : ∃ g, g = W2.heap.size + 1 := ⟨_, rfl⟩
    rw [← hgB] at q1 ⊢
    rw [← hgO] at q0 ⊢
    have hO : W2.heap.size ≤ gO := by omega
    have hB : W2.heap.size ≤ gB := by omega
    have hne : gO ≠ gB := by omega
    clear hgO hgB hX
    have kO := q0
    have kB := q1
    clear q0 q1
    have kC := Blk.new X 25 (vecC np fun _ => .slice none 0 0)
    have b4 := gr_alloc bX (.cells (vecC np fun _ => .slice none 0 0) 25)
    have hok : HvOk (X.alloc (.cells (vecC np fun _ => .slice none 0 0) 25)) (X.heap.size + 1) gO gB X.heap.size np (ownT np own 0) (hvS np (edgP E ls) own 0) (np - 0) (fun _ => .slice none 0 0) := by
      have l1 := kO.lt
      have l2 := kB.lt
      refine ⟨?_, kB.alloc _, kC, fun k h1 h2 => by omega, ⟨by omega, by omega, by omega, hne, by omega, by omega⟩, by simp⟩
      rw [numC_congr (f := ownT np own 0) (g := fun _ => 0) (fun k hk => (ownT_low (by omega)).symm)]
      exact kO.alloc _
    have hm2 := hmk2 X
    obtain ⟨B, hBe⟩ : ∃ B, B = X.heap.size + 1 := ⟨_, rfl⟩
    obtain ⟨gC, hgC⟩ : ∃ g, g = X.heap.size := ⟨_, rfl⟩
    rw [← hBe, ← hgC] at hok
    have hCx : W2.heap.size ≤ gC := by rw [hgC]; exact bX.size
    have P := Lib.hid (And.intro b4 hok)
    clear kC b4 hok kO kB bX hmk2
    have w1 : IntKind.i64.wrap ((np : Int) - 1) = (np : Int) - 1 := IntWalk.i64_in _ (by omega)
    go_wp2_with (fail)
    rw [← hgC]
    clear hm2 hgC hBe
    go_loopg [13] np (fun q iv wr => ∃ (j : Nat) (V : Nat → Value), q = np - j ∧ j ≤ np ∧ iv = .int .i64 ((np : Int) - 1 - (j : Int)) ∧ Below W2.heap.size W2 wr ∧ HvOk wr B gO gB gC np (ownT np own j) (hvS np (edgP E ls) own j) (np - j) V)
    case atStart => exact ⟨0, _, rfl, Nat.zero_le _, by simp, P.out.1, P.out.2⟩
    case round =>
      obtain ⟨j, V, hq, hj, rfl, hbel, hok⟩ := hrel
      by_cases hjn : j < np
      · obtain ⟨i, hi⟩ : ∃ i : Nat, i = np - 1 - j := ⟨_, rfl⟩
        have hin : i < np := by omega
        have hiI : (np : Int) - 1 - (j : Int) = (i : Int) := by omega
        rw [hiI]
        have hi0 : (0 : Int) ≤ (i : Int) := by omega
        have hi' : (i : Int) < (np : Int) := by omega
        have wi : IntKind.i64.wrap ((i : Int) - 1) = (i : Int) - 1 := IntWalk.i64_in _ (by omega)
        obtain ⟨cc, hcc⟩ : ∃ x, ls[i]? = some x := ⟨_, List.getElem?_eq_getElem (by rw [← M.out.2.2.1]; exact hin)⟩
        obtain ⟨g, hg, hgl, hcells⟩ := N.out.2.2.2 (fun e => by rw [e] at hcc; simp at hcc)
        obtain ⟨u, hcu, hu⟩ := hcells i cc hcc
        obtain ⟨ua, uc, hue, huc⟩ := hu.ex
        obtain ⟨nu, hnu⟩ : ∃ x, x = cc.length := ⟨_, rfl⟩
        rw [← hnu] at hue
        subst hue hg
        obtain ⟨hcn, hc64, hcx⟩ := M.out.1.2 cc (List.mem_of_getElem? hcc)
        have hnu64 : nu ≤ 64 := by rw [hnu]; exact hc64
        obtain ⟨ub, uo, rfl, hul, hucc⟩ := huc hcn
        have howni : own i = oT wl cc := by rw [M.out.2.2.2.1]; unfold ownF; rw [hcc]; rfl
        have cu := (hbel.cell (p := ⟨g, i, none⟩) hgl).trans hcu
        have gl := Nat.lt_of_lt_of_le hgl hbel.size
        have c2' := (hbel.cell (p := ⟨bg, 2, none⟩) lg2).trans c2
        have lg' := Nat.lt_of_lt_of_le lg2 hbel.size
        have B1 := Lib.hid (And.intro hq (And.intro hiI (And.intro hbel (And.intro hok (And.intro hi (And.intro hcc (And.intro hul (And.intro hucc (And.intro hnu howni)))))))))
        clear hq hiI hbel hok hi hcc hcells hcu hu huc hul hucc hnu howni hgl hcn hc64 hcx
        rename World => wo
        go_wp2_with (fail)
        go_loopg [65] nu (fun q tv wr => ∃ t : Nat, q = nu - t ∧ t ≤ nu ∧ tv = .int .i64 (t : Int) ∧ Below W2.heap.size W2 wr ∧ HvOk wr B gO gB gC np (upd (ownT np own j) i (oT wl (cc.take t))) (hvS np (edgP E ls) own j) (np - j) V)
        case atStart =>
          refine ⟨0, rfl, Nat.zero_le _, rfl, B1.out.2.2.1, B1.out.2.2.2.1.congr (fun k _ => ?_) (fun _ _ => rfl)⟩
          by_cases hk : k = i
          · subst hk
            rw [upd_same, ownT_low (by have := B1.out.2.2.2.2.1; omega)]; rfl
          · rw [upd_other _ _ hk]
        case round =>
          obtain ⟨t, hq, ht, rfl, hbel, hok⟩ := hrel
          by_cases htn : t < nu
          · have ht' : (t : Int) < (nu : Int) := by omega
            obtain ⟨x, hx⟩ : ∃ x, cc[t]? = some x := ⟨_, List.getElem?_eq_getElem (by rw [← B1.out.2.2.2.2.2.2.2.2.1]; exact htn)⟩
            have cx := (hbel.cell (p := ⟨ub, uo + t, none⟩) B1.out.2.2.2.2.2.2.1).trans (B1.out.2.2.2.2.2.2.2.1 t x hx)
            have ul := Nat.lt_of_lt_of_le B1.out.2.2.2.2.2.2.1 hbel.size
            have hxm := M.out.2.1 i cc x B1.out.2.2.2.2.2.1 (List.mem_of_getElem? hx)
            have hst := oT_step (wl := wl) hx
            obtain ⟨y, hy1, hy2, hy3⟩ := wN_at (wl := wl) (k := x) (by rw [M.out.2.2.2.2.2.2.1]; exact hxm) M.out.2.2.2.2.2.2.2
            obtain ⟨A', c', hsl, hwc⟩ := (N.out.2.2.1.below hbel).ex
            obtain ⟨wg, wo', hwa, hwl, hwcc⟩ := hwc (fun e => by have := intL_at hy1; rw [e] at this; cases this)
            have hWA : WA = some ⟨wg, wo', none⟩ := by injection hsl with h1; rw [h1, hwa]
            have cw := hwcc x _ (intL_at hy1)
            rw [hy2] at cw
            have ci := hok.own.cell' (vecC_at (fun k' => .int .i64 ((upd (ownT np own j) i (oT wl (cc.take t)) k' : Nat) : Int)) hin)
            rw [upd_same] at ci
            have fi := hok.own.frozen i
            have li := hok.own.lt
            have hb1 : oT wl (cc.take t) ≤ 1000 := oT_le (fun z _ => wN_le M.out.2.2.2.2.2.2.2 z) 0 (by decide)
            obtain ⟨a, ha⟩ : ∃ a, a = oT wl (cc.take t) := ⟨_, rfl⟩
            obtain ⟨b, hb⟩ : ∃ b, b = wN wl x := ⟨_, rfl⟩
            rw [← ha] at ci hb1 hst
            rw [← hb] at cw hy3 hst
            subst hWA
            have hxm' : (x : Int) < (m : Int) := by omega
            have ha3 : (a : Int) ≤ 1000 := by omega
            have hb3 : (b : Int) ≤ 1000 := by omega
            have F := Lib.hid (And.intro hst (And.intro hbel (And.intro hok (And.intro hq (And.intro ha hwl)))))
            clear hst hbel hok hq hx hxm hy1 hy2 hy3 hsl hwc hwa hwcc ha hb hb1
            go_wp2_with (fail)
            go_region
            go_wp2_with (fail)
            go_roundg (nu - (t + 1))
            case measure => have := F.out.2.2.2.1; omega
            case rel =>
              have ho : max (a : Int) (b : Int) = ((max a b : Nat) : Int) := by omega
              rw [ho]
              have hbb := gr_set F.out.2.1 (p := ⟨gO, i, none⟩) hO (.int .i64 ((max a b : Nat) : Int))
              refine ⟨t + 1, rfl, htn, by simp, ⟨hbb.os, hbb.tape, hbb.output, hbb.size, hbb.block⟩, ?_⟩
              rw [F.out.1]
              have h9 := F.out.2.2.1.setOwn hin (max a b)
              have h10 : HvOk (wr.setCell ⟨gO, i, none⟩ (.int .i64 ((max a b : Nat) : Int))) B gO gB gC np (upd (ownT np own j) i (max a b)) (hvS np (edgP E ls) own j) (np - j) V := by
                refine h9.congr (fun k _ => ?_) (fun _ _ => rfl)
                by_cases hk : k = i
                · subst hk; rw [upd_same, upd_same]
                · rw [upd_other _ _ hk, upd_other _ _ hk, upd_other _ _ hk]
              exact h10.below (gr_drew (Below.refl _ _))
          · have et : t = nu := by omega
            subst t
            have hok2 : HvOk wr B gO gB gC np (upd (ownT np own j) i (own i)) (hvS np (edgP E ls) own j) (np - j) V := by
              rw [B1.out.2.2.2.2.2.2.2.2.2]
              have h := hok
              rw [B1.out.2.2.2.2.2.2.2.2.1, List.take_length] at h
              exact h
            have ci := hok2.own.cell' (vecC_at (fun k' => .int .i64 ((upd (ownT np own j) i (own i) k' : Nat) : Int)) hin)
            rw [upd_same] at ci
            have lO := hok2.own.lt
            have hob := M.out.2.2.2.2.1 i
            obtain ⟨ow, how⟩ : ∃ x, x = own i := ⟨_, rfl⟩
            rw [← how] at ci hob
            have how1 : (ow : Int) ≤ 1000 := by omega
            have hokA := hok2.below (gr_alloc (Below.refl _ _) (.cells #[.int .i64 (i : Int)] 3))
            have ciA := hokA.own.cell' (vecC_at (fun k' => .int .i64 ((upd (ownT np own j) i (own i) k' : Nat) : Int)) hin)
            rw [upd_same, ← how] at ciA
            have lOA := hokA.own.lt
            have cbA := hokA.best.cell' (vecC_at (fun k' => .int .i64 ((hvS np (edgP E ls) own j k').1 : Int)) hin)
            have fbA := hokA.best.frozen i
            have lbA := hokA.best.lt
            have hnw := new_nat wr i
            have hput := hokA.put (i := i) hin (by have := B1.out.2.2.2.2.1; omega) ow (ownN_mono hnw hok2.le)
            have ccA := (hokA.ch.far (p := ⟨gB, i, none⟩) (Ne.symm hokA.lt.2.2.2.2.2) (.int .i64 (ow : Int))).cell' (vecC_at V hin)
            have fcA := (hokA.ch.far (p := ⟨gB, i, none⟩) (Ne.symm hokA.lt.2.2.2.2.2) (.int .i64 (ow : Int))).frozen i
            have lcA := (hokA.ch.far (p := ⟨gB, i, none⟩) (Ne.symm hokA.lt.2.2.2.2.2) (.int .i64 (ow : Int))).lt
            have hbP := gr_set (gr_set (gr_alloc hbel (.cells #[.int .i64 (i : Int)] 3)) (p := ⟨gB, i, none⟩) hB (.int .i64 (ow : Int))) (p := ⟨gC, i, none⟩) hCx (.slice (some ⟨wr.heap.size, 0, none⟩) 1 1)
            have F := Lib.hid (And.intro hput (And.intro hbP how))
            clear hbel hok hq htn hok2 hokA hnw hput hbP hob how
            go_wp2_with (fail)
            clear ci ciA lO lOA cbA fbA lbA ccA fcA lcA how1 cu gl c2' lg'
            go_loopg [16] j (fun q kv wr => ∃ (c : Nat) (V : Nat → Value), q = j - c ∧ c ≤ j ∧ kv = .int .i64 ((i + 1 + c : Nat) : Int) ∧ Below W2.heap.size W2 wr ∧ HvOk wr B gO gB gC np (upd (ownT np own j) i (own i)) (upd (hvS np (edgP E ls) own j) i (hvI (edgP E ls) own i (hvS np (edgP E ls) own j) c)) i V)
            case atStart =>
              refine ⟨0, upd V i (.slice (some ⟨wr.heap.size, 0, none⟩) 1 1), rfl, Nat.zero_le _, by simp, F.out.2.1, ?_⟩
              have e := F.out.2.2
              subst e
              exact F.out.1
            case round =>
              obtain ⟨c, V, hq, hc, rfl, hbel, hok⟩ := hrel
              obtain ⟨k, hk⟩ : ∃ k : Nat, k = i + 1 + c := ⟨_, rfl⟩
              rw [← hk]
              by_cases hcj : c < j
              · have hkn : k < np := by have := B1.out.2.2.2.2.1; omega
                have hki : k ≠ i := by omega
                have hik : i ≤ k := by omega
                have hk' : (k : Int) < (np : Int) := by omega
                have wk : IntKind.i64.wrap ((k : Int) + 1) = (k : Int) + 1 := IntWalk.i64_in _ (by omega)
                have hgw := N.out.1.below hbel
                have hed := edge_code m hm E ls M.out.1.1 M.out.1.2 bg bl i k (by rw [← M.out.2.2.1]; exact hin) (by rw [← M.out.2.2.1]; exact hkn) _ _ wr.drew (hgw.below (gr_drew (Below.refl _ _)))
                have hst : hvI (edgP E ls) own i (hvS np (edgP E ls) own j) (c + 1) = if (edgP E ls i k && decide ((hvI (edgP E ls) own i (hvS np (edgP E ls) own j) c).1 < own i + (hvS np (edgP E ls) own j k).1)) = true then (own i + (hvS np (edgP E ls) own j k).1, i :: (hvS np (edgP E ls) own j k).2) else hvI (edgP E ls) own i (hvS np (edgP E ls) own j) c := by
                  rw [hk]; rfl
                have ci := hok.own.cell' (vecC_at (fun k' => .int .i64 ((upd (ownT np own j) i (own i) k' : Nat) : Int)) hin)
                rw [upd_same] at ci
                have lO := hok.own.lt
                have cbi := hok.best.cell' (vecC_at (fun k' => .int .i64 ((upd (hvS np (edgP E ls) own j) i (hvI (edgP E ls) own i (hvS np (edgP E ls) own j) c) k').1 : Int)) hin)
                rw [upd_same] at cbi
                have cbk := hok.best.cell' (vecC_at (fun k' => .int .i64 ((upd (hvS np (edgP E ls) own j) i (hvI (edgP E ls) own i (hvS np (edgP E ls) own j) c) k').1 : Int)) hkn)
                rw [upd_other _ _ hki] at cbk
                have lB := hok.best.lt
                have hvk := hok.at_ k hik hkn
                rw [upd_other _ _ hki] at hvk
                have hb1 := M.out.2.2.2.2.1 i
                have hb2 := hvS_bound (m := np) (e := edgP E ls) M.out.2.2.2.2.1 j k
                have hb3 := hvS_ne (m := np) (e := edgP E ls) M.out.2.2.2.2.1 j k hj (by have := B1.out.2.2.2.2.1; omega) hkn
                have hb4 := (hvI_bound (e := edgP E ls) (own := own) (i := i) (H := hvS np (edgP E ls) own j) (B := 1000 * j) (L := j) (c := c) hb1 (fun d _ => hvS_bound (m := np) (e := edgP E ls) M.out.2.2.2.2.1 j _)).1
                obtain ⟨ow, how⟩ : ∃ x, x = own i := ⟨_, rfl⟩
                obtain ⟨bi, hbi⟩ : ∃ x, x = (hvI (edgP E ls) own i (hvS np (edgP E ls) own j) c).1 := ⟨_, rfl⟩
                obtain ⟨bk, hbk⟩ : ∃ x, x = (hvS np (edgP E ls) own j k).1 := ⟨_, rfl⟩
                rw [← how, ← hbi, ← hbk] at hst
                rw [← how] at ci hb1
                rw [← hbi] at cbi hb4
                rw [← hbk] at cbk hb2
                have x1 : (ow : Int) ≤ 1000 := by omega
                have x2 : (bk : Int) ≤ 64000 := by omega
                have x3 : (bi : Int) ≤ 65000 := by omega
                have hwv : ((ow : Int) + (bk : Int)) = ((ow + bk : Nat) : Int) := by simp
                cases he : edgP E ls i k with
                | true =>
                  rw [he, Bool.true_and] at hst
                  rw [he] at hed
                  by_cases hlt : bi < ow + bk
                  · rw [decide_eq_true hlt, if_pos rfl] at hst
                    have hlt' : (bi : Int) < ((ow : Int) + (bk : Int)) := by omega
                    obtain ⟨ka, kc, hVk⟩ := own_slice hvk
                    obtain ⟨nk, hnk⟩ : ∃ x, x = (hvS np (edgP E ls) own j k).2.length := ⟨_, rfl⟩
                    rw [← hnk] at hVk
                    have cck := hok.ch.cell' (vecC_at V hkn)
                    rw [hVk] at cck hvk
                    have lC := hok.ch.lt
                    have hbZ := gr_drew (gr_alloc (gr_alloc (Below.refl wr.heap.size wr) (.cells #[.int .i64 (i : Int)] 3)) (.cells #[.slice (some ⟨wr.heap.size, 0, none⟩) 1 1, .slice ka nk kc] 25))
                    have hjn := joined_code [[i], (hvS np (edgP E ls) own j k).2] (by simp) (pair_ne i hb3) (by unfold sumL; simp; have := hb2.2; omega) _ _
                      (pair_ll (W := ((wr.alloc (.cells #[.int .i64 (i : Int)] 3)).alloc (.cells #[.slice (some ⟨wr.heap.size, 0, none⟩) 1 1, .slice ka nk kc] 25)).drew) (g := wr.heap.size + 1) ((Blk.new wr 3 #[.int .i64 (i : Int)]).alloc _).drew (Blk.drew (blk_at (by simp))) (OwnN.at_ (own_below hvk hbZ (Nat.le_refl _))))
                    rw [show ([[i], (hvS np (edgP E ls) own j k).2] : List (List Nat)).flatten = i :: (hvS np (edgP E ls) own j k).2 by simp] at hjn
                    have G := Lib.hid (And.intro hst (And.intro hed (And.intro hbel (And.intro hok (And.intro hq (And.intro hk (And.intro how (And.intro hbZ hjn))))))))
                    clear hst hed hbel hok hq hk how hgw hvk hb1 hb2 hb3 hb4 hbi hbk hwv hbZ hjn hVk hnk hlt
                    go_wp2_with (fail)
                    go_region
                    all_goals (
                      go_wp2_with (fail)
                      refine G.out.2.1.mono ?_
                      rintro e W5 ⟨rfl, rfl⟩
                      go_wp2_with (fail)
                      refine G.out.2.2.2.2.2.2.2.2.mono ?_
                      rintro e W6 ⟨u, rfl, hou, h6⟩
                      have hb6 := gr_call G.out.2.2.2.2.2.2.2.1 h6
                      have hok6 := G.out.2.2.2.1.below hb6
                      have cB6 := hok6.best.cell' (vecC_at (fun k' => .int .i64 ((upd (hvS np (edgP E ls) own j) i (hvI (edgP E ls) own i (hvS np (edgP E ls) own j) c) k').1 : Int)) hin)
                      have fB6 := hok6.best.frozen i
                      have lB6 := hok6.best.lt
                      have cC6 := (hok6.ch.far (p := ⟨gB, i, none⟩) (Ne.symm hok6.lt.2.2.2.2.2) (.int .i64 ((ow : Int) + (bk : Int)))).cell' (vecC_at V hin)
                      have fC6 := (hok6.ch.far (p := ⟨gB, i, none⟩) (Ne.symm hok6.lt.2.2.2.2.2) (.int .i64 ((ow : Int) + (bk : Int)))).frozen i
                      have lC6 := (hok6.ch.far (p := ⟨gB, i, none⟩) (Ne.symm hok6.lt.2.2.2.2.2) (.int .i64 ((ow : Int) + (bk : Int)))).lt
                      have hput := hok6.put (i := i) hin (Nat.le_succ i) (ow + bk) (ownN_mono hou (Nat.le_trans G.out.2.2.2.1.le (G.out.2.2.2.2.2.2.2.1).size))
                      rw [show ((ow + bk : Nat) : Int) = (ow : Int) + (bk : Int) by simp] at hput
                      obtain ⟨xa, xc, hxe⟩ := own_slice hou
                      obtain ⟨xl, hxl⟩ : ∃ xl, u = .slice xa xl xc := ⟨_, hxe⟩
                      subst hxl
                      have K := Lib.hid (And.intro hput (gr_call G.out.2.2.1 hb6))
                      clear hput hou h6 hb6 hok6 hxe
                      go_wp2_with (fail)
                      go_roundg (j - (c + 1))
                      case measure => have := G.out.2.2.2.2.1; omega
                      case rel =>
                        refine ⟨c + 1, upd V i (.slice xa xl xc), rfl, hcj, by rw [G.out.2.2.2.2.2.1]; simp; omega, gr_set (gr_set K.out.2 hB _) hCx _, ?_⟩
                        refine K.out.1.congr (fun _ _ => rfl) (fun k' _ => ?_)
                        rw [G.out.1]
                        by_cases e : k' = i
                        · subst e; rw [upd_same, upd_same]
                        · rw [upd_other _ _ e, upd_other _ _ e, upd_other _ _ e])
                  · rw [decide_eq_false hlt, if_neg (by decide)] at hst
                    have hlt' : ¬ (bi : Int) < ((ow : Int) + (bk : Int)) := by omega
                    have G := Lib.hid (And.intro hst (And.intro hed (And.intro hbel (And.intro hok (And.intro hq (And.intro hk how))))))
                    clear hst hed hbel hok hq hk how hgw hvk hb1 hb2 hb3 hb4 hbi hbk hwv hlt
                    go_wp2_with (fail)
                    go_region
                    all_goals (
                      go_wp2_with (fail)
                      refine G.out.2.1.mono ?_
                      rintro e W5 ⟨rfl, rfl⟩
                      go_wp2_with (fail)
                      go_roundg (j - (c + 1))
                      case measure => have := G.out.2.2.2.2.1; omega
                      case rel =>
                        refine ⟨c + 1, V, rfl, hcj, by rw [G.out.2.2.2.2.2.1]; simp; omega, ⟨G.out.2.2.1.os, G.out.2.2.1.tape, G.out.2.2.1.output, G.out.2.2.1.size, G.out.2.2.1.block⟩, ?_⟩
                        rw [G.out.1]
                        exact G.out.2.2.2.1.below (gr_drew (Below.refl _ _)))
                | false =>
                  rw [he, Bool.false_and, if_neg (by decide)] at hst
                  rw [he] at hed
                  have G := Lib.hid (And.intro hst (And.intro hed (And.intro hbel (And.intro hok (And.intro hq (And.intro hk how))))))
                  clear hst hed hbel hok hq hk how hgw hvk hb1 hb2 hb3 hb4 hbi hbk hwv
                  go_wp2_with (fail)
                  go_region
                  all_goals (
                    go_wp2_with (fail)
                    refine G.out.2.1.mono ?_
                    rintro e W5 ⟨rfl, rfl⟩
                    go_wp2_with (fail)
                    go_roundg (j - (c + 1))
                    case measure => have := G.out.2.2.2.2.1; omega
                    case rel =>
                      refine ⟨c + 1, V, rfl, hcj, by rw [G.out.2.2.2.2.2.1]; simp; omega, ⟨G.out.2.2.1.os, G.out.2.2.1.tape, G.out.2.2.1.output, G.out.2.2.1.size, G.out.2.2.1.block⟩, ?_⟩
                      rw [G.out.1]
                      exact G.out.2.2.2.1.below (gr_drew (Below.refl _ _)))
              · have ec : c = j := by omega
                subst c
                have hke : k = np := by have := B1.out.2.2.2.2.1; omega
                subst hke
                have G := Lib.hid (And.intro hbel (And.intro hok hq))
                clear hbel hok hq hcj hk
                go_wp2_with (fail)
                go_roundg (k - (j + 1))
                case measure => have := B1.out.1; omega
                case rel =>
                  refine ⟨j + 1, V, rfl, hjn, by have := B1.out.2.1; simp; omega, G.out.1, ?_⟩
                  have h9 := G.out.2.1
                  have e1 := B1.out.2.2.2.2.1
                  rw [show k - (j + 1) = i by omega]
                  refine h9.congr (fun q hq => ?_) (fun q hq => ?_)
                  · rw [ownT_next hjn, e1]
                  · rw [e1]; rfl
      · have ej : j = np := by omega
        subst j
        rename World => W3
        have hneg : ((np : Int) - 1 - (np : Int)) = -1 := by omega
        rw [hneg]
        have Q := Lib.hid (And.intro hbel hok)
        clear hbel hok hq hjn
        go_wp2_with (fail)
        go_loopg [138, 18] np (fun q iv av wr => ∃ i : Nat, q = np - i ∧ i ≤ np ∧ iv = .int .i64 (i : Int) ∧ av = .int .i64 (atV (fun i => (hvF np (edgP E ls) own i).1) i) ∧ Below W3.heap.size W3 wr)
        case atStart => exact ⟨0, rfl, Nat.zero_le _, rfl, rfl, Below.refl _ _⟩
        case round =>
          obtain ⟨i, hq, hi, rfl, rfl, hbel⟩ := hrel
          by_cases hin : i < np
          · have hi' : (i : Int) < (np : Int) := by omega
            have hokw := Q.out.2.below hbel
            have ci := hokw.best.cell' (vecC_at (fun k' => .int .i64 ((hvS np (edgP E ls) own np k').1 : Int)) hin)
            have lB := hokw.best.lt
            cases i with
            | zero =>
              have hm1 : atV (fun i => (hvF np (edgP E ls) own i).1) 0 = -1 := rfl
              rw [hm1]
              have G := Lib.hid (And.intro hbel hq)
              clear hbel hq hokw ci
              go_wp2_with (fail)
              go_quiet (fail)
              all_goals (
                go_wp2_with (fail)
                go_roundg (np - (0 + 1))
                case measure => have := G.out.2; omega
                case rel => exact ⟨1, rfl, hin, by simp, by rw [atV_first]; simp, below_drewN G.out.1 _⟩)
            | succ i =>
              obtain ⟨a, ha, hal, _⟩ := argM_some (fun i => (hvF np (edgP E ls) own i).1) (i + 1) (Nat.succ_pos i)
              have hat : atV (fun i => (hvF np (edgP E ls) own i).1) (i + 1) = (a : Int) := by unfold atV; rw [ha]
              have hst := atV_step ha
              rw [hat]
              have hai : a < np := by omega
              have ha' : (a : Int) < (np : Int) := by omega
              have ha0 : decide ((a : Int) < 0) = false := by simp
              have ca := hokw.best.cell' (vecC_at (fun k' => .int .i64 ((hvS np (edgP E ls) own np k').1 : Int)) hai)
              have hst : atV (fun i => (hvF np (edgP E ls) own i).1) (i + 1 + 1) = if (hvS np (edgP E ls) own np a).1 < (hvS np (edgP E ls) own np (i + 1)).1 then ((i + 1 : Nat) : Int) else (a : Int) := hst
              obtain ⟨x, hx⟩ : ∃ x, x = (hvS np (edgP E ls) own np (i + 1)).1 := ⟨_, rfl⟩
              obtain ⟨y, hy⟩ : ∃ y, y = (hvS np (edgP E ls) own np a).1 := ⟨_, rfl⟩
              rw [← hx] at ci hst
              rw [← hy] at ca hst
              obtain ⟨I, hI⟩ : ∃ I, I = i + 1 := ⟨_, rfl⟩
              rw [← hI] at ci hst hi' ⊢
              by_cases hlt : y < x
              · rw [if_pos hlt] at hst
                have hlt' : (y : Int) < (x : Int) := by omega
                have G := Lib.hid (And.intro hbel (And.intro hq (And.intro hst hI)))
                clear hbel hq hst hokw hI hat ha hx hy hlt
                go_wp2_with (fail)
                go_quiet (fail)
                all_goals (
                  go_wp2_with (fail)
                  go_roundg (np - (I + 1))
                  case measure => have := G.out.2.1; have := G.out.2.2.2; omega
                  case rel => exact ⟨I + 1, rfl, by have := G.out.2.2.2; omega, by simp, by rw [G.out.2.2.1], below_drewN G.out.1 _⟩)
              · rw [if_neg hlt] at hst
                have hlt' : decide ((y : Int) < (x : Int)) = false := by simp; omega
                have hlt2 : ¬ (y : Int) < (x : Int) := by omega
                have G := Lib.hid (And.intro hbel (And.intro hq (And.intro hst hI)))
                clear hbel hq hst hokw hI hat ha hx hy hlt
                go_wp2_with (fail)
                go_quiet (fail)
                all_goals (
                  go_wp2_with (fail)
                  go_roundg (np - (I + 1))
                  case measure => have := G.out.2.1; have := G.out.2.2.2; omega
                  case rel => exact ⟨I + 1, rfl, by have := G.out.2.2.2; omega, by simp, by rw [G.out.2.2.1], below_drewN G.out.1 _⟩)
          · have ei : i = np := by omega
            subst i
            by_cases h0 : np = 0
            · have hm1 : atV (fun i => (hvF np (edgP E ls) own i).1) np = -1 := by rw [h0]; rfl
              have hv0 : hvV m E wl ls = (0, []) := by rw [M.out.2.2.2.2.2.1, h0]; rfl
              rw [hm1]
              have G := Lib.hid (And.intro hbel hv0)
              clear hbel hv0 hq hin
              go_wp2_with (fail)
              refine bodyPost_ret (v := .tuple #[.int .i64 0, .slice none 0 0, .int .i64 0]) (by simp [results, Try.results18, go_sem]) rfl ⟨_, by rw [G.out.2]; rfl, by rw [G.out.2]; exact NatsAt.nil _, ?_⟩
              exact gr_call N.out.2.1 (gr_call Q.out.1 G.out.1)
            · obtain ⟨a, ha, hal, _⟩ := argM_some (fun i => (hvF np (edgP E ls) own i).1) np (by omega)
              have hat : atV (fun i => (hvF np (edgP E ls) own i).1) np = (a : Int) := by unfold atV; rw [ha]
              have hv1 : hvV m E wl ls = hvF np (edgP E ls) own a := by rw [M.out.2.2.2.2.2.1, ha]
              rw [hat]
              have ha' : (a : Int) < (np : Int) := by omega
              have ha0 : ¬ (a : Int) < 0 := by omega
              have hokw := Q.out.2.below hbel
              have cb := hokw.best.cell' (vecC_at (fun k' => .int .i64 ((hvS np (edgP E ls) own np k').1 : Int)) hal)
              have lB := hokw.best.lt
              have cc := hokw.ch.cell' (vecC_at V hal)
              have lC := hokw.ch.lt
              have hva := hokw.at_ a (by omega) hal
              obtain ⟨ka, kc, hVk⟩ := own_slice hva
              obtain ⟨nk, hnk⟩ : ∃ x, x = (hvS np (edgP E ls) own np a).2.length := ⟨_, rfl⟩
              rw [← hnk] at hVk
              rw [hVk] at cc hva
              obtain ⟨x, hx⟩ : ∃ x, x = (hvS np (edgP E ls) own np a).1 := ⟨_, rfl⟩
              rw [← hx] at cb
              have hv1 : hvV m E wl ls = hvS np (edgP E ls) own np a := hv1
              have G := Lib.hid (And.intro hbel (And.intro hv1 (And.intro hva hx)))
              clear hbel hv1 hva hx hq hin hokw hVk hnk ha hat h0
              go_wp2_with (fail)
              go_region
              all_goals (
                go_wp2_with (fail)
                refine bodyPost_ret (v := .tuple #[.int .i64 (x : Int), .slice ka nk kc, .int .i64 0]) (by simp [results, Try.results18, go_sem]) rfl ⟨_, by rw [G.out.2.1, ← G.out.2.2.2], by rw [G.out.2.1]; exact OwnN.at_ (own_drewN G.out.2.2.1 1), ?_⟩
                exact gr_drew (gr_call N.out.2.1 (gr_call Q.out.1 G.out.1)))
  · obtain ⟨X, hX⟩ : ∃ X, (((W2.alloc (.cells (vecC np fun x => .int .i64 0) 3)).alloc (.cells (vecC np fun x => .int .i64 0) 3)).drew) = X := ⟨_, rfl⟩
    have q0 : Blk X W2.heap.size 3 (numC np fun _ => 0) := by rw [← hX]; exact ((Blk.new W2 3 (numC np fun _ => 0)).alloc _).drew
    have q1 : Blk X (W2.heap.size + 1) 3 (numC np fun _ => 0) := by rw [← hX]; exact Blk.drew (blk_at (by simp))
    have bX : Below W2.heap.size W2 X := by rw [← hX]; exact gr_drew (gr_alloc (gr_alloc (Below.refl _ _) _) _)
    rw [hX]
    obtain ⟨gO, hgO⟩ : ∃ g, g = W2.heap.size + 1 := ⟨_, rfl⟩
    obtain ⟨gB, hgB⟩ : ∃ g, g = W2.heap.size := ⟨_, rfl⟩
    rw [← hgO] at q1 ⊢
    rw [← hgB] at q0 ⊢
    have hO : W2.heap.size ≤ gO := by omega
    have hB : W2.heap.size ≤ gB := by omega
    have hne : gO ≠ gB := by omega
    clear hgO hgB hX
    have kO := q1
    have kB := q0
    clear q0 q1
    have kC := Blk.new X 25 (vecC np fun _ => .slice none 0 0)
    have b4 := gr_alloc bX (.cells (vecC np fun _ => .slice none 0 0) 25)
    have hok : HvOk (X.alloc (.cells (vecC np fun _ => .slice none 0 0) 25)) (X.heap.size + 1) gO gB X.heap.size np (ownT np own 0) (hvS np (edgP E ls) own 0) (np - 0) (fun _ => .slice none 0 0) := by
      have l1 := kO.lt
      have l2 := kB.lt
      refine ⟨?_, kB.alloc _, kC, fun k h1 h2 => by omega, ⟨by omega, by omega, by omega, hne, by omega, by omega⟩, by simp⟩
      rw [numC_congr (f := ownT np own 0) (g := fun _ => 0) (fun k hk => (ownT_low (by omega)).symm)]
      exact kO.alloc _
    have hm2 := hmk2 X
    obtain ⟨B, hBe⟩ : ∃ B, B = X.heap.size + 1 := ⟨_, rfl⟩
    obtain ⟨gC, hgC⟩ : ∃ g, g = X.heap.size := ⟨_, rfl⟩
    rw [← hBe, ← hgC] at hok
    have hCx : W2.heap.size ≤ gC := by rw [hgC]; exact bX.size
    have P := Lib.hid (And.intro b4 hok)
    clear kC b4 hok kO kB bX hmk2
    have w1 : IntKind.i64.wrap ((np : Int) - 1) = (np : Int) - 1 := IntWalk.i64_in _ (by omega)
    go_wp2_with (fail)
    rw [← hgC]
    clear hm2 hgC hBe
    go_loopg [13] np (fun q iv wr => ∃ (j : Nat) (V : Nat → Value), q = np - j ∧ j ≤ np ∧ iv = .int .i64 ((np : Int) - 1 - (j : Int)) ∧ Below W2.heap.size W2 wr ∧ HvOk wr B gO gB gC np (ownT np own j) (hvS np (edgP E ls) own j) (np - j) V)
    case atStart => exact ⟨0, _, rfl, Nat.zero_le _, by simp, P.out.1, P.out.2⟩
    case round =>
      obtain ⟨j, V, hq, hj, rfl, hbel, hok⟩ := hrel
      by_cases hjn : j < np
      · obtain ⟨i, hi⟩ : ∃ i : Nat, i = np - 1 - j := ⟨_, rfl⟩
        have hin : i < np := by omega
        have hiI : (np : Int) - 1 - (j : Int) = (i : Int) := by omega
        rw [hiI]
        have hi0 : (0 : Int) ≤ (i : Int) := by omega
        have hi' : (i : Int) < (np : Int) := by omega
        have wi : IntKind.i64.wrap ((i : Int) - 1) = (i : Int) - 1 := IntWalk.i64_in _ (by omega)
        obtain ⟨cc, hcc⟩ : ∃ x, ls[i]? = some x := ⟨_, List.getElem?_eq_getElem (by rw [← M.out.2.2.1]; exact hin)⟩
        obtain ⟨g, hg, hgl, hcells⟩ := N.out.2.2.2 (fun e => by rw [e] at hcc; simp at hcc)
        obtain ⟨u, hcu, hu⟩ := hcells i cc hcc
        obtain ⟨ua, uc, hue, huc⟩ := hu.ex
        obtain ⟨nu, hnu⟩ : ∃ x, x = cc.length := ⟨_, rfl⟩
        rw [← hnu] at hue
        subst hue hg
        obtain ⟨hcn, hc64, hcx⟩ := M.out.1.2 cc (List.mem_of_getElem? hcc)
        have hnu64 : nu ≤ 64 := by rw [hnu]; exact hc64
        obtain ⟨ub, uo, rfl, hul, hucc⟩ := huc hcn
        have howni : own i = oT wl cc := by rw [M.out.2.2.2.1]; unfold ownF; rw [hcc]; rfl
        have cu := (hbel.cell (p := ⟨g, i, none⟩) hgl).trans hcu
        have gl := Nat.lt_of_lt_of_le hgl hbel.size
        have c2' := (hbel.cell (p := ⟨bg, 2, none⟩) lg2).trans c2
        have lg' := Nat.lt_of_lt_of_le lg2 hbel.size
        have B1 := Lib.hid (And.intro hq (And.intro hiI (And.intro hbel (And.intro hok (And.intro hi (And.intro hcc (And.intro hul (And.intro hucc (And.intro hnu howni)))))))))
        clear hq hiI hbel hok hi hcc hcells hcu hu huc hul hucc hnu howni hgl hcn hc64 hcx
        rename World => wo
        go_wp2_with (fail)
        go_loopg [65] nu (fun q tv wr => ∃ t : Nat, q = nu - t ∧ t ≤ nu ∧ tv = .int .i64 (t : Int) ∧ Below W2.heap.size W2 wr ∧ HvOk wr B gO gB gC np (upd (ownT np own j) i (oT wl (cc.take t))) (hvS np (edgP E ls) own j) (np - j) V)
        case atStart =>
          refine ⟨0, rfl, Nat.zero_le _, rfl, B1.out.2.2.1, B1.out.2.2.2.1.congr (fun k _ => ?_) (fun _ _ => rfl)⟩
          by_cases hk : k = i
          · subst hk
            rw [upd_same, ownT_low (by have := B1.out.2.2.2.2.1; omega)]; rfl
          · rw [upd_other _ _ hk]
        case round =>
          obtain ⟨t, hq, ht, rfl, hbel, hok⟩ := hrel
          by_cases htn : t < nu
          · have ht' : (t : Int) < (nu : Int) := by omega
            obtain ⟨x, hx⟩ : ∃ x, cc[t]? = some x := ⟨_, List.getElem?_eq_getElem (by rw [← B1.out.2.2.2.2.2.2.2.2.1]; exact htn)⟩
            have cx := (hbel.cell (p := ⟨ub, uo + t, none⟩) B1.out.2.2.2.2.2.2.1).trans (B1.out.2.2.2.2.2.2.2.1 t x hx)
            have ul := Nat.lt_of_lt_of_le B1.out.2.2.2.2.2.2.1 hbel.size
            have hxm := M.out.2.1 i cc x B1.out.2.2.2.2.2.1 (List.mem_of_getElem? hx)
            have hst := oT_step (wl := wl) hx
            obtain ⟨y, hy1, hy2, hy3⟩ := wN_at (wl := wl) (k := x) (by rw [M.out.2.2.2.2.2.2.1]; exact hxm) M.out.2.2.2.2.2.2.2
            obtain ⟨A', c', hsl, hwc⟩ := (N.out.2.2.1.below hbel).ex
            obtain ⟨wg, wo', hwa, hwl, hwcc⟩ := hwc (fun e => by have := intL_at hy1; rw [e] at this; cases this)
            have hWA : WA = some ⟨wg, wo', none⟩ := by injection hsl with h1; rw [h1, hwa]
            have cw := hwcc x _ (intL_at hy1)
            rw [hy2] at cw
            have ci := hok.own.cell' (vecC_at (fun k' => .int .i64 ((upd (ownT np own j) i (oT wl (cc.take t)) k' : Nat) : Int)) hin)
            rw [upd_same] at ci
            have fi := hok.own.frozen i
            have li := hok.own.lt
            have hb1 : oT wl (cc.take t) ≤ 1000 := oT_le (fun z _ => wN_le M.out.2.2.2.2.2.2.2 z) 0 (by decide)
            obtain ⟨a, ha⟩ : ∃ a, a = oT wl (cc.take t) := ⟨_, rfl⟩
            obtain ⟨b, hb⟩ : ∃ b, b = wN wl x := ⟨_, rfl⟩
            rw [← ha] at ci hb1 hst
            rw [← hb] at cw hy3 hst
            subst hWA
            have hxm' : (x : Int) < (m : Int) := by omega
            have ha3 : (a : Int) ≤ 1000 := by omega
            have hb3 : (b : Int) ≤ 1000 := by omega
            have F := Lib.hid (And.intro hst (And.intro hbel (And.intro hok (And.intro hq (And.intro ha hwl)))))
            clear hst hbel hok hq hx hxm hy1 hy2 hy3 hsl hwc hwa hwcc ha hb hb1
            go_wp2_with (fail)
            go_region
            go_wp2_with (fail)
            go_roundg (nu - (t + 1))
            case measure => have := F.out.2.2.2.1; omega
            case rel =>
              have ho : max (a : Int) (b : Int) = ((max a b : Nat) : Int) := by omega
              rw [ho]
              have hbb := gr_set F.out.2.1 (p := ⟨gO, i, none⟩) hO (.int .i64 ((max a b : Nat) : Int))
              refine ⟨t + 1, rfl, htn, by simp, ⟨hbb.os, hbb.tape, hbb.output, hbb.size, hbb.block⟩, ?_⟩
              rw [F.out.1]
              have h9 := F.out.2.2.1.setOwn hin (max a b)
              have h10 : HvOk (wr.setCell ⟨gO, i, none⟩ (.int .i64 ((max a b : Nat) : Int))) B gO gB gC np (upd (ownT np own j) i (max a b)) (hvS np (edgP E ls) own j) (np - j) V := by
                refine h9.congr (fun k _ => ?_) (fun _ _ => rfl)
                by_cases hk : k = i
                · subst hk; rw [upd_same, upd_same]
                · rw [upd_other _ _ hk, upd_other _ _ hk, upd_other _ _ hk]
              exact h10.below (gr_drew (Below.refl _ _))
          · have et : t = nu := by omega
            subst t
            have hok2 : HvOk wr B gO gB gC np (upd (ownT np own j) i (own i)) (hvS np (edgP E ls) own j) (np - j) V := by
              rw [B1.out.2.2.2.2.2.2.2.2.2]
              have h := hok
              rw [B1.out.2.2.2.2.2.2.2.2.1, List.take_length] at h
              exact h
            have ci := hok2.own.cell' (vecC_at (fun k' => .int .i64 ((upd (ownT np own j) i (own i) k' : Nat) : Int)) hin)
            rw [upd_same] at ci
            have lO := hok2.own.lt
            have hob := M.out.2.2.2.2.1 i
            obtain ⟨ow, how⟩ : ∃ x, x = own i := ⟨_, rfl⟩
            rw [← how] at ci hob
            have how1 : (ow : Int) ≤ 1000 := by omega
            have hokA := hok2.below (gr_alloc (Below.refl _ _) (.cells #[.int .i64 (i : Int)] 3))
            have ciA := hokA.own.cell' (vecC_at (fun k' => .int .i64 ((upd (ownT np own j) i (own i) k' : Nat) : Int)) hin)
            rw [upd_same, ← how] at ciA
            have lOA := hokA.own.lt
            have cbA := hokA.best.cell' (vecC_at (fun k' => .int .i64 ((hvS np (edgP E ls) own j k').1 : Int)) hin)
            have fbA := hokA.best.frozen i
            have lbA := hokA.best.lt
            have hnw := new_nat wr i
            have hput := hokA.put (i := i) hin (by have := B1.out.2.2.2.2.1; omega) ow (ownN_mono hnw hok2.le)
            have ccA := (hokA.ch.far (p := ⟨gB, i, none⟩) (Ne.symm hokA.lt.2.2.2.2.2) (.int .i64 (ow : Int))).cell' (vecC_at V hin)
            have fcA := (hokA.ch.far (p := ⟨gB, i, none⟩) (Ne.symm hokA.lt.2.2.2.2.2) (.int .i64 (ow : Int))).frozen i
            have lcA := (hokA.ch.far (p := ⟨gB, i, none⟩) (Ne.symm hokA.lt.2.2.2.2.2) (.int .i64 (ow : Int))).lt
            have hbP := gr_set (gr_set (gr_alloc hbel (.cells #[.int .i64 (i : Int)] 3)) (p := ⟨gB, i, none⟩) hB (.int .i64 (ow : Int))) (p := ⟨gC, i, none⟩) hCx (.slice (some ⟨wr.heap.size, 0, none⟩) 1 1)
            have F := Lib.hid (And.intro hput (And.intro hbP how))
            clear hbel hok hq htn hok2 hokA hnw hput hbP hob how
            go_wp2_with (fail)
            clear ci ciA lO lOA cbA fbA lbA ccA fcA lcA how1 cu gl c2' lg'
            go_loopg [16] j (fun q kv wr => ∃ (c : Nat) (V : Nat → Value), q = j - c ∧ c ≤ j ∧ kv = .int .i64 ((i + 1 + c : Nat) : Int) ∧ Below W2.heap.size W2 wr ∧ HvOk wr B gO gB gC np (upd (ownT np own j) i (own i)) (upd (hvS np (edgP E ls) own j) i (hvI (edgP E ls) own i (hvS np (edgP E ls) own j) c)) i V)
            case atStart =>
              refine ⟨0, upd V i (.slice (some ⟨wr.heap.size, 0, none⟩) 1 1), rfl, Nat.zero_le _, by simp, F.out.2.1, ?_⟩
              have e := F.out.2.2
              subst e
              exact F.out.1
            case round =>
              obtain ⟨c, V, hq, hc, rfl, hbel, hok⟩ := hrel
              obtain ⟨k, hk⟩ : ∃ k : Nat, k = i + 1 + c := ⟨_, rfl⟩
              rw [← hk]
              by_cases hcj : c < j
              · have hkn : k < np := by have := B1.out.2.2.2.2.1; omega
                have hki : k ≠ i := by omega
                have hik : i ≤ k := by omega
                have hk' : (k : Int) < (np : Int) := by omega
                have wk : IntKind.i64.wrap ((k : Int) + 1) = (k : Int) + 1 := IntWalk.i64_in _ (by omega)
                have hgw := N.out.1.below hbel
                have hed := edge_code m hm E ls M.out.1.1 M.out.1.2 bg bl i k (by rw [← M.out.2.2.1]; exact hin) (by rw [← M.out.2.2.1]; exact hkn) _ _ wr.drew (hgw.below (gr_drew (Below.refl _ _)))
                have hst : hvI (edgP E ls) own i (hvS np (edgP E ls) own j) (c + 1) = if (edgP E ls i k && decide ((hvI (edgP E ls) own i (hvS np (edgP E ls) own j) c).1 < own i + (hvS np (edgP E ls) own j k).1)) = true then (own i + (hvS np (edgP E ls) own j k).1, i :: (hvS np (edgP E ls) own j k).2) else hvI (edgP E ls) own i (hvS np (edgP E ls) own j) c := by
                  rw [hk]; rfl
                have ci := hok.own.cell' (vecC_at (fun k' => .int .i64 ((upd (ownT np own j) i (own i) k' : Nat) : Int)) hin)
                rw [upd_same] at ci
                have lO := hok.own.lt
                have cbi := hok.best.cell' (vecC_at (fun k' => .int .i64 ((upd (hvS np (edgP E ls) own j) i (hvI (edgP E ls) own i (hvS np (edgP E ls) own j) c) k').1 : Int)) hin)
                rw [upd_same] at cbi
                have cbk := hok.best.cell' (vecC_at (fun k' => .int .i64 ((upd (hvS np (edgP E ls) own j) i (hvI (edgP E ls) own i (hvS np (edgP E ls) own j) c) k').1 : Int)) hkn)
                rw [upd_other _ _ hki] at cbk
                have lB := hok.best.lt
                have hvk := hok.at_ k hik hkn
                rw [upd_other _ _ hki] at hvk
                have hb1 := M.out.2.2.2.2.1 i
                have hb2 := hvS_bound (m := np) (e := edgP E ls) M.out.2.2.2.2.1 j k
                have hb3 := hvS_ne (m := np) (e := edgP E ls) M.out.2.2.2.2.1 j k hj (by have := B1.out.2.2.2.2.1; omega) hkn
                have hb4 := (hvI_bound (e := edgP E ls) (own := own) (i := i) (H := hvS np (edgP E ls) own j) (B := 1000 * j) (L := j) (c := c) hb1 (fun d _ => hvS_bound (m := np) (e := edgP E ls) M.out.2.2.2.2.1 j _)).1
                obtain ⟨ow, how⟩ : ∃ x, x = own i := ⟨_, rfl⟩
                obtain ⟨bi, hbi⟩ : ∃ x, x = (hvI (edgP E ls) own i (hvS np (edgP E ls) own j) c).1 := ⟨_, rfl⟩
                obtain ⟨bk, hbk⟩ : ∃ x, x = (hvS np (edgP E ls) own j k).1 := ⟨_, rfl⟩
                rw [← how, ← hbi, ← hbk] at hst
                rw [← how] at ci hb1
                rw [← hbi] at cbi hb4
                rw [← hbk] at cbk hb2
                have x1 : (ow : Int) ≤ 1000 := by omega
                have x2 : (bk : Int) ≤ 64000 := by omega
                have x3 : (bi : Int) ≤ 65000 := by omega
                have hwv : ((ow : Int) + (bk : Int)) = ((ow + bk : Nat) : Int) := by simp
                cases he : edgP E ls i k with
                | true =>
                  rw [he, Bool.true_and] at hst
                  rw [he] at hed
                  by_cases hlt : bi < ow + bk
                  · rw [decide_eq_true hlt, if_pos rfl] at hst
                    have hlt' : (bi : Int) < ((ow : Int) + (bk : Int)) := by omega
                    obtain ⟨ka, kc, hVk⟩ := own_slice hvk
                    obtain ⟨nk, hnk⟩ : ∃ x, x = (hvS np (edgP E ls) own j k).2.length := ⟨_, rfl⟩
                    rw [← hnk] at hVk
                    have cck := hok.ch.cell' (vecC_at V hkn)
                    rw [hVk] at cck hvk
                    have lC := hok.ch.lt
                    have hbZ := gr_drew (gr_alloc (gr_alloc (Below.refl wr.heap.size wr) (.cells #[.int .i64 (i : Int)] 3)) (.cells #[.slice (some ⟨wr.heap.size, 0, none⟩) 1 1, .slice ka nk kc] 25))
                    have hjn := joined_code [[i], (hvS np (edgP E ls) own j k).2] (by simp) (pair_ne i hb3) (by unfold sumL; simp; have := hb2.2; omega) _ _
                      (pair_ll (W := ((wr.alloc (.cells #[.int .i64 (i : Int)] 3)).alloc (.cells #[.slice (some ⟨wr.heap.size, 0, none⟩) 1 1, .slice ka nk kc] 25)).drew) (g := wr.heap.size + 1) ((Blk.new wr 3 #[.int .i64 (i : Int)]).alloc _).drew (Blk.drew (blk_at (by simp))) (OwnN.at_ (own_below hvk hbZ (Nat.le_refl _))))
                    rw [show ([[i], (hvS np (edgP E ls) own j k).2] : List (List Nat)).flatten = i :: (hvS np (edgP E ls) own j k).2 by simp] at hjn
                    have G := Lib.hid (And.intro hst (And.intro hed (And.intro hbel (And.intro hok (And.intro hq (And.intro hk (And.intro how (And.intro hbZ hjn))))))))
                    clear hst hed hbel hok hq hk how hgw hvk hb1 hb2 hb3 hb4 hbi hbk hwv hbZ hjn hVk hnk hlt
                    go_wp2_with (fail)
                    go_region
                    all_goals (
                      go_wp2_with (fail)
                      refine G.out.2.1.mono ?_
                      rintro e W5 ⟨rfl, rfl⟩
                      go_wp2_with (fail)
                      refine G.out.2.2.2.2.2.2.2.2.mono ?_
                      rintro e W6 ⟨u, rfl, hou, h6⟩
                      have hb6 := gr_call G.out.2.2.2.2.2.2.2.1 h6
                      have hok6 := G.out.2.2.2.1.below hb6
                      have cB6 := hok6.best.cell' (vecC_at (fun k' => .int .i64 ((upd (hvS np (edgP E ls) own j) i (hvI (edgP E ls) own i (hvS np (edgP E ls) own j) c) k').1 : Int)) hin)
                      have fB6 := hok6.best.frozen i
                      have lB6 := hok6.best.lt
                      have cC6 := (hok6.ch.far (p := ⟨gB, i, none⟩) (Ne.symm hok6.lt.2.2.2.2.2) (.int .i64 ((ow : Int) + (bk : Int)))).cell' (vecC_at V hin)
                      have fC6 := (hok6.ch.far (p := ⟨gB, i, none⟩) (Ne.symm hok6.lt.2.2.2.2.2) (.int .i64 ((ow : Int) + (bk : Int)))).frozen i
                      have lC6 := (hok6.ch.far (p := ⟨gB, i, none⟩) (Ne.symm hok6.lt.2.2.2.2.2) (.int .i64 ((ow : Int) + (bk : Int)))).lt
                      have hput := hok6.put (i := i) hin (Nat.le_succ i) (ow + bk) (ownN_mono hou (Nat.le_trans G.out.2.2.2.1.le (G.out.2.2.2.2.2.2.2.1).size))
                      rw [show ((ow + bk : Nat) : Int) = (ow : Int) + (bk : Int) by simp] at hput
                      obtain ⟨xa, xc, hxe⟩ := own_slice hou
                      obtain ⟨xl, hxl⟩ : ∃ xl, u = .slice xa xl xc := ⟨_, hxe⟩
                      subst hxl
                      have K := Lib.hid (And.intro hput (gr_call G.out.2.2.1 hb6))
                      clear hput hou h6 hb6 hok6 hxe
                      go_wp2_with (fail)
                      go_roundg (j - (c + 1))
                      case measure => have := G.out.2.2.2.2.1; omega
                      case rel =>
                        refine ⟨c + 1, upd V i (.slice xa xl xc), rfl, hcj, by rw [G.out.2.2.2.2.2.1]; simp; omega, gr_set (gr_set K.out.2 hB _) hCx _, ?_⟩
                        refine K.out.1.congr (fun _ _ => rfl) (fun k' _ => ?_)
                        rw [G.out.1]
                        by_cases e : k' = i
                        · subst e; rw [upd_same, upd_same]
                        · rw [upd_other _ _ e, upd_other _ _ e, upd_other _ _ e])
                  · rw [decide_eq_false hlt, if_neg (by decide)] at hst
                    have hlt' : ¬ (bi : Int) < ((ow : Int) + (bk : Int)) := by omega
                    have G := Lib.hid (And.intro hst (And.intro hed (And.intro hbel (And.intro hok (And.intro hq (And.intro hk how))))))
                    clear hst hed hbel hok hq hk how hgw hvk hb1 hb2 hb3 hb4 hbi hbk hwv hlt
                    go_wp2_with (fail)
                    go_region
                    all_goals (
                      go_wp2_with (fail)
                      refine G.out.2.1.mono ?_
                      rintro e W5 ⟨rfl, rfl⟩
                      go_wp2_with (fail)
                      go_roundg (j - (c + 1))
                      case measure => have := G.out.2.2.2.2.1; omega
                      case rel =>
                        refine ⟨c + 1, V, rfl, hcj, by rw [G.out.2.2.2.2.2.1]; simp; omega, ⟨G.out.2.2.1.os, G.out.2.2.1.tape, G.out.2.2.1.output, G.out.2.2.1.size, G.out.2.2.1.block⟩, ?_⟩
                        rw [G.out.1]
                        exact G.out.2.2.2.1.below (gr_drew (Below.refl _ _)))
                | false =>
                  rw [he, Bool.false_and, if_neg (by decide)] at hst
                  rw [he] at hed
                  have G := Lib.hid (And.intro hst (And.intro hed (And.intro hbel (And.intro hok (And.intro hq (And.intro hk how))))))
                  clear hst hed hbel hok hq hk how hgw hvk hb1 hb2 hb3 hb4 hbi hbk hwv
                  go_wp2_with (fail)
                  go_region
                  all_goals (
                    go_wp2_with (fail)
                    refine G.out.2.1.mono ?_
                    rintro e W5 ⟨rfl, rfl⟩
                    go_wp2_with (fail)
                    go_roundg (j - (c + 1))
                    case measure => have := G.out.2.2.2.2.1; omega
                    case rel =>
                      refine ⟨c + 1, V, rfl, hcj, by rw [G.out.2.2.2.2.2.1]; simp; omega, ⟨G.out.2.2.1.os, G.out.2.2.1.tape, G.out.2.2.1.output, G.out.2.2.1.size, G.out.2.2.1.block⟩, ?_⟩
                      rw [G.out.1]
                      exact G.out.2.2.2.1.below (gr_drew (Below.refl _ _)))
              · have ec : c = j := by omega
                subst c
                have hke : k = np := by have := B1.out.2.2.2.2.1; omega
                subst hke
                have G := Lib.hid (And.intro hbel (And.intro hok hq))
                clear hbel hok hq hcj hk
                go_wp2_with (fail)
                go_roundg (k - (j + 1))
                case measure => have := B1.out.1; omega
                case rel =>
                  refine ⟨j + 1, V, rfl, hjn, by have := B1.out.2.1; simp; omega, G.out.1, ?_⟩
                  have h9 := G.out.2.1
                  have e1 := B1.out.2.2.2.2.1
                  rw [show k - (j + 1) = i by omega]
                  refine h9.congr (fun q hq => ?_) (fun q hq => ?_)
                  · rw [ownT_next hjn, e1]
                  · rw [e1]; rfl
      · have ej : j = np := by omega
        subst j
        rename World => W3
        have hneg : ((np : Int) - 1 - (np : Int)) = -1 := by omega
        rw [hneg]
        have Q := Lib.hid (And.intro hbel hok)
        clear hbel hok hq hjn
        go_wp2_with (fail)
        go_loopg [138, 18] np (fun q iv av wr => ∃ i : Nat, q = np - i ∧ i ≤ np ∧ iv = .int .i64 (i : Int) ∧ av = .int .i64 (atV (fun i => (hvF np (edgP E ls) own i).1) i) ∧ Below W3.heap.size W3 wr)
        case atStart => exact ⟨0, rfl, Nat.zero_le _, rfl, rfl, Below.refl _ _⟩
        case round =>
          obtain ⟨i, hq, hi, rfl, rfl, hbel⟩ := hrel
          by_cases hin : i < np
          · have hi' : (i : Int) < (np : Int) := by omega
            have hokw := Q.out.2.below hbel
            have ci := hokw.best.cell' (vecC_at (fun k' => .int .i64 ((hvS np (edgP E ls) own np k').1 : Int)) hin)
            have lB := hokw.best.lt
            cases i with
            | zero =>
              have hm1 : atV (fun i => (hvF np (edgP E ls) own i).1) 0 = -1 := rfl
              rw [hm1]
              have G := Lib.hid (And.intro hbel hq)
              clear hbel hq hokw ci
              go_wp2_with (fail)
              go_quiet (fail)
              all_goals (
                go_wp2_with (fail)
                go_roundg (np - (0 + 1))
                case measure => have := G.out.2; omega
                case rel => exact ⟨1, rfl, hin, by simp, by rw [atV_first]; simp, below_drewN G.out.1 _⟩)
            | succ i =>
              obtain ⟨a, ha, hal, _⟩ := argM_some (fun i => (hvF np (edgP E ls) own i).1) (i + 1) (Nat.succ_pos i)
              have hat : atV (fun i => (hvF np (edgP E ls) own i).1) (i + 1) = (a : Int) := by unfold atV; rw [ha]
              have hst := atV_step ha
              rw [hat]
              have hai : a < np := by omega
              have ha' : (a : Int) < (np : Int) := by omega
              have ha0 : decide ((a : Int) < 0) = false := by simp
              have ca := hokw.best.cell' (vecC_at (fun k' => .int .i64 ((hvS np (edgP E ls) own np k').1 : Int)) hai)
              have hst : atV (fun i => (hvF np (edgP E ls) own i).1) (i + 1 + 1) = if (hvS np (edgP E ls) own np a).1 < (hvS np (edgP E ls) own np (i + 1)).1 then ((i + 1 : Nat) : Int) else (a : Int) := hst
              obtain ⟨x, hx⟩ : ∃ x, x = (hvS np (edgP E ls) own np (i + 1)).1 := ⟨_, rfl⟩
              obtain ⟨y, hy⟩ : ∃ y, y = (hvS np (edgP E ls) own np a).1 := ⟨_, rfl⟩
              rw [← hx] at ci hst
              rw [← hy] at ca hst
              obtain ⟨I, hI⟩ : ∃ I, I = i + 1 := ⟨_, rfl⟩
              rw [← hI] at ci hst hi' ⊢
              by_cases hlt : y < x
              · rw [if_pos hlt] at hst
                have hlt' : (y : Int) < (x : Int) := by omega
                have G := Lib.hid (And.intro hbel (And.intro hq (And.intro hst hI)))
                clear hbel hq hst hokw hI hat ha hx hy hlt
                go_wp2_with (fail)
                go_quiet (fail)
                all_goals (
                  go_wp2_with (fail)
                  go_roundg (np - (I + 1))
                  case measure => have := G.out.2.1; have := G.out.2.2.2; omega
                  case rel => exact ⟨I + 1, rfl, by have := G.out.2.2.2; omega, by simp, by rw [G.out.2.2.1], below_drewN G.out.1 _⟩)
              · rw [if_neg hlt] at hst
                have hlt' : decide ((y : Int) < (x : Int)) = false := by simp; omega
                have hlt2 : ¬ (y : Int) < (x : Int) := by omega
                have G := Lib.hid (And.intro hbel (And.intro hq (And.intro hst hI)))
                clear hbel hq hst hokw hI hat ha hx hy hlt
                go_wp2_with (fail)
                go_quiet (fail)
                all_goals (
                  go_wp2_with (fail)
                  go_roundg (np - (I + 1))
                  case measure => have := G.out.2.1; have := G.out.2.2.2; omega
                  case rel => exact ⟨I + 1, rfl, by have := G.out.2.2.2; omega, by simp, by rw [G.out.2.2.1], below_drewN G.out.1 _⟩)
          · have ei : i = np := by omega
            subst i
            by_cases h0 : np = 0
            · have hm1 : atV (fun i => (hvF np (edgP E ls) own i).1) np = -1 := by rw [h0]; rfl
              have hv0 : hvV m E wl ls = (0, []) := by rw [M.out.2.2.2.2.2.1, h0]; rfl
              rw [hm1]
              have G := Lib.hid (And.intro hbel hv0)
              clear hbel hv0 hq hin
              go_wp2_with (fail)
              refine bodyPost_ret (v := .tuple #[.int .i64 0, .slice none 0 0, .int .i64 0]) (by simp [results, Try.results18, go_sem]) rfl ⟨_, by rw [G.out.2]; rfl, by rw [G.out.2]; exact NatsAt.nil _, ?_⟩
              exact gr_call N.out.2.1 (gr_call Q.out.1 G.out.1)
            · obtain ⟨a, ha, hal, _⟩ := argM_some (fun i => (hvF np (edgP E ls) own i).1) np (by omega)
              have hat : atV (fun i => (hvF np (edgP E ls) own i).1) np = (a : Int) := by unfold atV; rw [ha]
              have hv1 : hvV m E wl ls = hvF np (edgP E ls) own a := by rw [M.out.2.2.2.2.2.1, ha]
              rw [hat]
              have ha' : (a : Int) < (np : Int) := by omega
              have ha0 : ¬ (a : Int) < 0 := by omega
              have hokw := Q.out.2.below hbel
              have cb := hokw.best.cell' (vecC_at (fun k' => .int .i64 ((hvS np (edgP E ls) own np k').1 : Int)) hal)
              have lB := hokw.best.lt
              have cc := hokw.ch.cell' (vecC_at V hal)
              have lC := hokw.ch.lt
              have hva := hokw.at_ a (by omega) hal
              obtain ⟨ka, kc, hVk⟩ := own_slice hva
              obtain ⟨nk, hnk⟩ : ∃ x, x = (hvS np (edgP E ls) own np a).2.length := ⟨_, rfl⟩
              rw [← hnk] at hVk
              rw [hVk] at cc hva
              obtain ⟨x, hx⟩ : ∃ x, x = (hvS np (edgP E ls) own np a).1 := ⟨_, rfl⟩
              rw [← hx] at cb
              have hv1 : hvV m E wl ls = hvS np (edgP E ls) own np a := hv1
              have G := Lib.hid (And.intro hbel (And.intro hv1 (And.intro hva hx)))
              clear hbel hv1 hva hx hq hin hokw hVk hnk ha hat h0
              go_wp2_with (fail)
              go_region
              all_goals (
                go_wp2_with (fail)
                refine bodyPost_ret (v := .tuple #[.int .i64 (x : Int), .slice ka nk kc, .int .i64 0]) (by simp [results, Try.results18, go_sem]) rfl ⟨_, by rw [G.out.2.1, ← G.out.2.2.2], by rw [G.out.2.1]; exact OwnN.at_ (own_drewN G.out.2.2.1 1), ?_⟩
                exact gr_drew (gr_call N.out.2.1 (gr_call Q.out.1 G.out.1)))

set_option maxRecDepth 100000 in
set_option maxHeartbeats 4000000 in
theorem heavy_code (n : Int) (l : List Edg) (wl : List Int) (hl : l.length ≤ 1000000) (hwl : wl.length ≤ 1000000) (A : Option Addr) (c : Nat) (wv : Value) (w : World) (hA : Cells w A 2 l.length (edAt l)) (hW : CellsAt w wv (intL wl)) :
    Calls Try.prog 18 #[.agg #[.int .i64 n, .slice A l.length c], wv] w fun e w' => ∃ v, e = .returned (.tuple #[.int .i64 ((vHv n l wl).1 : Int), v, .int .i64 (eHv n l wl)]) ∧ NatsAt w' v (vHv n l wl).2 ∧ Below w.heap.size w w' := by
  have b0 := gr_alloc (Below.refl w.heap.size w) (.cells #[.int .i64 n, .slice A l.length c] 24)
  have hA0 := hA.below b0
  have hW0 := hW.below b0
  by_cases he : (chkG n l).1 = 0
  · have hE : eHv n l wl = if (wl.length : Int) = n then (if wl.any badW = true then 2 else 0) else 3 := by unfold eHv; rw [if_pos he]
    have hck := he
    obtain ⟨m, rfl, hm, hv, hw, ht⟩ := ok_nat he
    have hR : rR (m : Int) l = rea m (relE l) := by unfold rR; rw [Int.toNat_natCast]
    have hP : pV (m : Int) l = partsV m (rea m (relE l)) := by unfold pV; rw [hR, Int.toNat_natCast]
    have hmd := made_code m hm l hl hv he A c _ hA0
    obtain ⟨WA, wc, hwv, hwx⟩ := hW0.ex
    rw [intL_len] at hwv
    subst hwv
    by_cases hlen : wl.length = m
    · have hlI : (wl.length : Int) = (m : Int) := by omega
      rw [if_pos hlI] at hE
      cases hb : wl.any badW with
      | false =>
        rw [hb, if_neg (by decide)] at hE
        have hV : vHv (m : Int) l wl = hvV m (relE l) wl (partsV m (rea m (relE l))) := by unfold vHv; rw [hE, if_pos rfl, Int.toNat_natCast, hP]
        rw [hE, hV]
        exact heavy_ok m hm l hl hv hck ht wl hlen hb A c _ w hA hW
      | true =>
        rw [hb, if_pos rfl] at hE
        have hV : vHv (m : Int) l wl = (0, []) := by unfold vHv; rw [hE, if_neg (by decide)]
        rw [hE, hV]
        have hco := fun W hW' => cont_code wl (.slice WA wl.length wc) W hW' (by omega)
        rw [hb, hlen] at hco
        rw [hlen] at hW0 ⊢
        obtain ⟨ln, hln⟩ : ∃ ln, ln = l.length := ⟨_, rfl⟩
        rw [← hln] at hmd b0 hW0 ⊢
        have H := Lib.hid (And.intro b0 (And.intro hmd (And.intro hW0 hco)))
        clear b0 hmd hE hV hln hA0 hA hl he hck hv hw ht hR hP hW hW0 hwx hlI hb hlen hwl hco
        go_enter Try.func18, Try.ntmps18
        go_wp2_with (fail)
        refine H.out.2.1.mono ?_
        rintro e W1 ⟨bg, bl, pv, kv, rfl, h1, h2⟩
        have c1 := h1.gr.gr.cell' (i := 1) rfl
        have lg := h1.gr.gr.lt
        have D := Lib.hid (And.intro (gr_call H.out.1 h2) (H.out.2.2.2 W1 (H.out.2.2.1.below h2)))
        clear h1 h2
        go_wp2_with (fail)
        refine D.out.2.mono ?_
        rintro e W2 ⟨rfl, h3⟩
        have K := Lib.hid (gr_call D.out.1 h3)
        clear h3
        go_wp2_with (fail)
        refine bodyPost_ret (v := .tuple #[.int .i64 0, .slice none 0 0, .int .i64 2]) (by simp [results, Try.results18, go_sem]) rfl ⟨_, rfl, NatsAt.nil _, K.out⟩
    · have hlI : ¬ (wl.length : Int) = (m : Int) := by omega
      rw [if_neg hlI] at hE
      have hV : vHv (m : Int) l wl = (0, []) := by unfold vHv; rw [hE, if_neg (by decide)]
      rw [hE, hV]
      obtain ⟨wn, hwn⟩ : ∃ x, x = wl.length := ⟨_, rfl⟩
      rw [← hwn] at hlI ⊢
      obtain ⟨ln, hln⟩ : ∃ ln, ln = l.length := ⟨_, rfl⟩
      rw [← hln] at hmd b0 ⊢
      have H := Lib.hid (And.intro b0 hmd)
      have hne : ((wn : Int) != (m : Int)) = true := by simp; omega
      clear b0 hmd hE hV hln hA0 hA hl he hck hv hw ht hR hP hW hW0 hwx hlI hlen hwl hwn
      go_enter Try.func18, Try.ntmps18
      go_wp2_with (fail)
      refine H.out.2.mono ?_
      rintro e W1 ⟨bg, bl, pv, kv, rfl, h1, h2⟩
      have c1 := h1.gr.gr.cell' (i := 1) rfl
      have lg := h1.gr.gr.lt
      have D := Lib.hid (gr_call H.out.1 h2)
      clear h1 h2
      go_wp2_with (fail)
      refine bodyPost_ret (v := .tuple #[.int .i64 0, .slice none 0 0, .int .i64 3]) (by simp [results, Try.results18, go_sem]) rfl ⟨_, rfl, NatsAt.nil _, D.out⟩
  · have hE : eHv n l wl = (chkG n l).1 := by unfold eHv; rw [if_neg he]
    have hV : vHv n l wl = (0, []) := by unfold vHv; rw [hE, if_neg he]
    rw [hV, hE]
    have hmd := made_err n l hl A c _ hA0 he
    obtain ⟨E, hE⟩ : ∃ E, E = (chkG n l).1 := ⟨_, rfl⟩
    obtain ⟨ln, hln⟩ : ∃ ln, ln = l.length := ⟨_, rfl⟩
    rw [← hE] at hmd he ⊢
    rw [← hln] at hmd b0 ⊢
    have H := Lib.hid (And.intro b0 hmd)
    have he' : (E != 0) = true := by simpa using he
    clear b0 hmd hA0 hA hE hln hl he hV hW hW0 hwl
    go_enter Try.func18, Try.ntmps18
    go_wp2_with (fail)
    refine H.out.2.mono ?_
    rintro e W1 ⟨rfl, h1⟩
    have D := Lib.hid (gr_call H.out.1 h1)
    clear h1
    go_wp2_with (fail)
    refine bodyPost_ret (v := .tuple #[.int .i64 0, .slice none 0 0, .int .i64 E]) (by simp [results, Try.results18, go_sem]) rfl ⟨_, rfl, NatsAt.nil _, D.out⟩
end Go.Proofs.Ytjgkiiohbceocaa
