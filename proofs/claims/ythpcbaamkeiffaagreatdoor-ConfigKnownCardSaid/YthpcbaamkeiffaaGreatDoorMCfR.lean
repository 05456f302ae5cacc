/-
  How the reader's memory takes a rule: plain; no condition.
  read of config's reader, walked: routes; conditions: sizes.
-/
import Derived.Test.YthpcbaamkeiffaaGreatDoorMCfP
namespace Go.Proofs.YthpcbaamkeiffaaGreatDoor
open Go.RowKit Go.Shelf
set_option linter.unusedVariables false
set_option linter.unusedSimpArgs false

theorem CdsMem.mono {W : World} {B L L' : Nat} {v : Value} {l : List Cd} (h : CdsMem W B L v l) (hL : L ≤ L') : CdsMem W B L' v l := ⟨h.1, fun k hk => Nat.lt_of_lt_of_le (h.2 k hk) hL⟩
theorem RdMem.pushRule {W X W1 : World} {B L : Nat} {s : Rd} {r cs pl : Value} {gd nd cap : Nat} (h : RdMem W B L s (.slice (some ⟨gd, 0, none⟩) nd cap) r cs pl) (hX : Below W.heap.size W X) {us : List Value}
    (hU : OwnU 48 3 drC W B (.slice (some ⟨gd, 0, none⟩) nd cap) s.c.dirs us) (hE : Each (fun x u => RusMem W B L u x.rus) s.c.dirs us) (hA : Aparts us) (hLW : L ≤ W.heap.size)
    {k : Nat} {dr : Dr} {u : Value} (hk : k + 1 = s.c.dirs.length) (hdr : s.c.dirs[k]? = some dr) (hu : us[k]? = some u) {vs : List Value} (hR : OwnU 66 14 ruC W B u dr.rus vs) (hRE : Each (fun x q => CdsMem W B L q x.cds) dr.rus vs)
    {x : Ru} (hx : x.cds = s.cds) {gg n capr : Nat} (hown : OwnU 66 14 ruC W1 B (.slice (some ⟨gg, 0, none⟩) n capr) (dr.rus ++ [x]) (vs ++ [cs])) (hg : X.grownBy W1 u.ownBlock) (hat : u.ownBlock = some gg ∨ gg = X.heap.size) (hgb : B ≤ X.heap.size) {s' : Rd}
    (h1 : s'.c.dirs = addRu s.c.dirs x) (h2 : s'.c.ros = s.c.ros) (h3 : s'.cds = []) (h4 : s'.pl = s.pl) :
    RdMem (W1.setCell ⟨gd, k * 3 + 2, none⟩ (.slice (some ⟨gg, 0, none⟩) n capr)) B W.heap.size s' (.slice (some ⟨gd, 0, none⟩) nd cap) r (.slice none 0 0) pl := by
  have hRX := hR.below hX
  have hk1 := fun q t c (hb : Blk W q t c) (ht : t ≠ 66) => own_others hRX.2 hg q t c (hb.call hX) ht
  have hU1 : OwnU 48 3 drC W1 B (.slice (some ⟨gd, 0, none⟩) nd cap) s.c.dirs us := hU.keep fun q c _ hb => hk1 q _ c hb (by decide)
  obtain ⟨curd, hgd⟩ : ∃ c, Blk W1 gd 48 c := by
    rcases hU1.2.2 with ⟨e, _⟩ | ⟨g', cap', cur, e, _, hh, _⟩
    · cases e
    · cases e; exact ⟨cur, hh⟩
  have hk2 : ∀ q t c, Blk W1 q t c → t ≠ 48 → Blk (W1.setCell ⟨gd, k * 3 + 2, none⟩ (.slice (some ⟨gg, 0, none⟩) n capr)) q t c := fun q t c hb ht => hb.far (by
    show q ≠ gd
    exact hb.ne_ hgd ht) _
  obtain ⟨q1, q2, ⟨uc, q3⟩, q4, q5⟩ := h
  have hcs : CdsMem W B W.heap.size cs s.cds := ⟨⟨uc, q3.weaken q5⟩, fun q hq => (q3.block hq).2⟩
  have kc : ∀ {v : Value} {l : List Cd}, CdsMem W B L v l → CdsMem (W1.setCell ⟨gd, k * 3 + 2, none⟩ (.slice (some ⟨gg, 0, none⟩) n capr)) B W.heap.size v l := fun hc => (hc.mono hLW).keep fun q c _ hb => hk2 q _ c (hk1 q _ c hb (by decide)) (by decide)
  refine ⟨?_, by rw [h2]; exact q2.keep (fun q c _ hb => hk2 q _ c (hk1 q _ c hb (by decide)) (by decide)) (fun q c hb => hk2 q _ c (hk1 q _ c hb (by decide)) (by decide)), by rw [h3]; exact ⟨[], OwnU.nil _ _ _⟩,
    by rw [h4]; exact own_blks q4 (fun q c hb => hk2 q _ c (hk1 q _ c hb (by decide)) (by decide)), hU.block rfl |>.1 |> fun _ => by
      exact Nat.le_of_lt (Nat.lt_of_le_of_lt (hU.block rfl).1 (hU.block rfl).2)⟩
  have hadd : addRu s.c.dirs x = s.c.dirs.set k ⟨dr.path, dr.mode, dr.rus ++ [x]⟩ := by
    unfold addRu
    rw [show s.c.dirs.length - 1 = k by omega]
    have : s.c.dirs.getD k ⟨⟨#[]⟩, 0, []⟩ = dr := by rw [List.getD_eq_getElem?_getD, hdr]; rfl
    rw [this]
  rw [h1, hadd]
  refine ⟨us.set k (.slice (some ⟨gg, 0, none⟩) n capr), hU1.stored drC_len hdr hu (by decide) rfl, ?_, ?_⟩
  · intro i y v hy hv
    by_cases hik : k = i
    · subst hik
      have hkl := (List.getElem?_eq_some_iff.1 hdr).1
      have hul := (List.getElem?_eq_some_iff.1 hu).1
      rw [List.getElem?_set_self hkl] at hy
      rw [List.getElem?_set_self hul] at hv
      cases hy; cases hv
      refine ⟨vs ++ [cs], hown.keep fun q c _ hb => hk2 q _ c hb (by decide), ?_⟩
      refine Each.snoc (hRE.imp fun y q _ hc => kc hc) hR.1 ?_
      rw [hx]
      exact hcs.keep fun q c _ hb => hk2 q _ c (hk1 q _ c hb (by decide)) (by decide)
    · rw [List.getElem?_set_ne hik] at hy hv
      obtain ⟨ws, hw1, hw2⟩ := hE i y v hy hv
      refine ⟨ws, hw1.keep fun q c hq hb => hk2 q _ c ((hb.call hX).grown hg (fun e => hA k i u v hu hv hik q e.symm hq)) (by decide), hw2.imp fun y q _ hc => kc hc⟩
  · intro i j a b ha hb hij q hqa hqb
    have hul := (List.getElem?_eq_some_iff.1 hu).1
    have key : ∀ (i : Nat) (a : Value), us[i]? = some a → i ≠ k → a.ownBlock = some gg → False := by
      intro i a ha hik hga
      rcases hat with hat | hat
      · exact hA i k a u ha hu hik gg hga hat
      · obtain ⟨y, hy⟩ : ∃ y, s.c.dirs[i]? = some y := ⟨_, List.getElem?_eq_getElem (by have := (List.getElem?_eq_some_iff.1 ha).1; have := hU.1; omega)⟩
        obtain ⟨ws, hw1, _⟩ := hE i y a hy ha
        have h5 := (hw1.block hga).2
        have h6 := hX.size
        omega
    by_cases hi : k = i
    · subst hi
      rw [List.getElem?_set_self hul] at ha
      cases ha
      rw [List.getElem?_set_ne hij] at hb
      cases hqa
      exact key j b hb (Ne.symm hij) hqb
    · rw [List.getElem?_set_ne hi] at ha
      by_cases hj : k = j
      · subst hj
        rw [List.getElem?_set_self hul] at hb
        cases hb
        cases hqb
        exact key i a ha (Ne.symm hi) hqa
      · rw [List.getElem?_set_ne hj] at hb
        exact hA i j a b ha hb hij q hqa hqb
end Go.Proofs.YthpcbaamkeiffaaGreatDoor
namespace Go.Proofs.YthpcbaamkeiffaaGreatDoor
open Go.RowKit Go.Shelf
set_option linter.unusedVariables false
set_option linter.unusedSimpArgs false

theorem RdMem.pushRoute {W X W1 : World} {B L : Nat} {s : Rd} {d r cs pl : Value} (h : RdMem W B L s d r cs pl) (hX : Below W.heap.size W X) {us : List Value} (hU : OwnU 70 3 roC W B r s.c.ros us) (hE : Each (fun x u => SegMem W B u x.seg) s.c.ros us)
    {q : Ro} {u v' : Value} (hq : SegMem W B u q.seg) (hown : W1.ownsRow B 70 3 v' (s.c.ros.length + 1) (allL roC s.c.ros us ++ roC q u)) (hg : X.grownBy W1 r.ownBlock) {s' : Rd}
    (h1 : s'.c.dirs = s.c.dirs) (h2 : s'.c.ros = s.c.ros ++ [q]) (h3 : s'.cds = s.cds) (h4 : s'.pl = s.pl) : RdMem W1 B L s' d v' cs pl := by
  have hk := fun k t cs (hb : Blk W k t cs) (ht : t ≠ 70) => own_others (own_below hU.2 hX (Nat.le_refl _)) hg k t cs (hb.call hX) ht
  obtain ⟨q1, _, ⟨uc, q3⟩, q4, q5⟩ := h
  refine ⟨by rw [h1]; exact q1.keep (fun k t cs ht hb => hk k t cs hb (by rcases ht with rfl | rfl <;> decide)) (fun k cs _ hb => hk k _ cs hb (by decide)), ?_, by rw [h3]; exact ⟨uc, q3.keep fun k cs _ hb => hk k _ cs hb (by decide)⟩, by rw [h4]; exact own_blks q4 (fun k cs hb => hk k _ cs hb (by decide)), q5⟩
  rw [h2]
  refine ⟨us ++ [u], ⟨by simp [hU.1], ?_⟩, ?_⟩
  · rw [allL_snoc _ _ hU.1, List.length_append, List.length_singleton]
    exact hown
  · exact Each.snoc (hE.imp fun x u _ hx => hx.keep (fun k cs hb => hk k _ cs hb (by decide))) hU.1 (hq.keep (fun k cs hb => hk k _ cs hb (by decide)))
theorem infoRoute : (Tryz.prog.info? 70).map (fun i => (i.zero, i.size, i.bytes)) = some (some (.agg #[.slice none 0 0, .int .i64 0, .string ⟨#[]⟩]), 3, 48) := by kernel_rfl

attribute [-go_sem] Builtin.append_
set_option maxRecDepth 100000 in
set_option maxHeartbeats 8000000 in
theorem read_route (w0 : World) (hE : Env w0) (rows : Value) (g n : Nat) (wA : Option Addr) (wc : Nat) (x : Rw) (s : Rd) (d r cs pl : Value) (L : Nat) (W : World) (h : RowAt w0 rows g W n wA wc x s d r cs pl L) (at_ : Int) (hl : 4 ≤ x.w.length) (hdl : s.c.ros.length ≤ 100000) :
    Calls Tryz.prog 102 #[.pointer (some ⟨g, 0, none⟩), .string sRoute, .int .i64 at_] W (ReadP w0 rows g n (.slice wA x.w.length wc) (readP 5 s x)) := by
  obtain ⟨i0, hi0, hz0, hz1, hz2⟩ := info_parts infoRoute
  have hnx := next_code g _ _ x.w 1 (wdN x 1) W h.cur (by decide) (wdN_at (by omega))
  have hsz := h.size (wdN x 1) (List.mem_of_getElem? (wdN_at (by omega)))
  obtain ⟨pt, hpt⟩ : ∃ p, p = (wdN x 1).t := ⟨_, rfl⟩
  obtain ⟨pa, hpa⟩ : ∃ p, p = (wdN x 1).a := ⟨_, rfl⟩
  obtain ⟨pq, hpq⟩ : ∃ p, p = (wdN x 1).q := ⟨_, rfl⟩
  rw [← hpt, ← hpa, ← hpq] at hnx
  rw [← hpt] at hsz
  obtain ⟨sg, hsg⟩ : ∃ q, q = segsP pt := ⟨_, rfl⟩
  have H := Lib.hid (And.intro h (And.intro hpt (And.intro hpa hsg)))
  have hseg := fun V (hm : MaxOk V) (hB : w0.heap.size ≤ V.heap.size) => segments_code pt w0.heap.size (by omega) V hm hB
  rw [← hsg] at hseg
  clear h hpt hpa hpq hsg hsz
  show Calls Tryz.prog 102 #[.pointer (some ⟨g, 0, none⟩), .string ⟨#[114, 111, 117, 116, 101]⟩, .int .i64 at_] W _
  obtain ⟨post, hpost⟩ : ∃ p, p = ReadP w0 rows g n (.slice wA x.w.length wc) (readP 5 s x) := ⟨_, rfl⟩
  rw [← hpost]
  have HP := Lib.hid hpost
  clear hpost
  go_enter Tryz.func102, Tryz.ntmps102
  go_wp2_with (fail)
  refine hnx.mono ?_
  rintro e W2 ⟨rfl, hc, hg⟩
  clear hnx
  have hbo : Below W2.heap.size W2 (W2.alloc (.cells #[.int .i64 pa, .string pt, .bool pq] 116)) := gr_alloc (Below.refl _ _) _
  have hbx : Blk (W2.alloc (.cells #[.int .i64 pa, .string pt, .bool pq] 116)) W2.heap.size 116 #[.int .i64 pa, .string pt, .bool pq] := Blk.new _ _ _
  have hgW3 : W.grownBy (W2.alloc (.cells #[.int .i64 pa, .string pt, .bool pq] 116)) (some g) := only_alloc hg _
  have hb3 := gr_below H.out.1.rd.bel H.out.1.rd.old hgW3
  have hse := hseg _ (hE.below hb3).max hb3.size
  have F := Lib.hid (And.intro (hc.below hbo) (And.intro hgW3 (And.intro hb3 hbx)))
  clear hc hg hbo hbx hgW3 hb3 hseg
  go_wp2_with (fail)
  refine hse.mono ?_
  rintro e W3 ⟨hm, hb4⟩
  clear hse
  obtain ⟨bx, hbxe⟩ : ∃ b, b = W2.heap.size := ⟨_, rfl⟩
  have hc4 := F.out.1.below hb4
  have hgr4 : W.grownBy W3 (some g) := only_trans F.out.2.1 (only_of_below hb4 _)
  have hx4 := F.out.2.2.2.call hb4
  rw [← hbxe] at hx4 ⊢
  have x0 : W3.cell? ⟨bx, 0, none⟩ = some (.int .i64 pa) := hx4.cell' (i := 0) rfl
  have xl := hx4.lt
  have G := Lib.hid (And.intro hc4 (And.intro hgr4 hx4))
  clear hbxe hb4 hc4 hgr4 hx4 F
  cases sg with
  | none =>
    have hm : e = .returned (.tuple #[.slice none 0 0, .int .i64 3]) := hm
    subst hm
    have hf := fun V (hb : Blk V g 92 (rdV rows (.slice wA x.w.length wc) d r cs pl n 2 0 0 s.c.cap s.c.lim)) => fails_code g _ _ 3 pa V hb rfl rfl
    have X := Lib.hid hf
    clear hf
    go_wp2_with (fail)
    go_still_tail 6, (by kernel_rfl)
    go_wp2_with (fail)
    refine (X.out _ (by exact G.out.1.blk.drewN _)).mono ?_
    rintro e W5 ⟨rfl, hb5, hg5⟩
    have Z := Lib.hid (And.intro hb5 hg5)
    clear hb5 hg5
    go_wp2_with (fail)
    rw [HP.out]
    have hr : readP 5 s x = (none, 3, (wdN x 1).a) := by
      show (match segsP (wdN x 1).t with | none => _ | some l => _) = _
      rw [← H.out.2.1, ← H.out.2.2.2]
    rw [hr, ← H.out.2.2.1]
    exact ⟨rfl, _, Z.out.1, rfl, rfl, H.out.1.rd.bel' (only_trans (only_drewN G.out.2.1 _) Z.out.2)⟩
  | some sl =>
    obtain ⟨sv, rfl, hsm⟩ := hm
    obtain ⟨res, hres⟩ : ∃ q, q = whW kindsL (wdN x 2) := ⟨_, rfl⟩
    have hwh : ∀ W4 bn, Below W3.heap.size W3 W4 → Blk W4 bn 9 #[.string ⟨#[102, 105, 120, 101, 100]⟩, .string ⟨#[101, 99, 104, 111]⟩, .string ⟨#[102, 105, 108, 101]⟩, .string ⟨#[98, 111, 100, 121]⟩] → Calls Tryz.prog 125 #[.pointer (some ⟨g, 0, none⟩), .slice (some ⟨bn, 0, none⟩) 4 4] W4 (fun e W5 => TakeP W4 g 92 (rdV rows (.slice wA x.w.length wc) d r cs pl n 2 0 0 s.c.cap s.c.lim) x.w 2 res e W5 ∧ SegMem W5 w0.heap.size sv sl ∧ W3.grownBy W5 (some g)) := by
      intro W4 bn hW hb
      rw [hres]
      have hc4 := G.out.1.below hW
      refine (which_code g _ _ x.w 2 (wdN x 2) W4 hc4 (by decide) (wdN_at (by omega)) rfl _ kindsL (by decide) (texts_blk (ts := kindsL) hb rfl) (fun a n c e => ?_)).mono (fun e W5 hm => ⟨hm, ?_, only_trans (only_of_below hW _) hm.2⟩)
      · cases e
        have : bn ≠ g := hb.ne_ hc4.blk (by decide)
        simpa using this
      · exact hsm.keep fun k cs hk => (hk.call hW).grown hm.2 (by
          intro e
          cases e
          exact (hk.call hW).ne_ hc4.blk (by decide) rfl)
    have R := Lib.hid hres
    obtain ⟨sA, sc, rfl⟩ := own_slice hsm
    clear hres hsm
    obtain ⟨sn, hsn⟩ : ∃ k, k = sl.length := ⟨_, rfl⟩
    rw [← hsn] at hwh ⊢
    have HSN := Lib.hid hsn
    clear hsn
    go_wp2_with (fail)
    obtain ⟨v, er, a⟩ := res
    cases v with
    | none =>
      go_region_with (first
        | (go_at_call 39; refine (kinds_code _).mono ?_; rintro e W4 ⟨rfl, rfl⟩)
        | (go_at_call 125; refine (hwh _ _ (by first | exact gr_drew (gr_alloc (Below.refl _ _) _) | exact gr_alloc (Below.refl _ _) _ | exact gr_alloc (gr_drew (Below.refl _ _)) _) (by first | exact (Blk.new _ _ _).drew | exact Blk.new _ _ _)).mono ?_; rintro e W5 ⟨⟨⟨rfl, hc5⟩, _⟩, hx5, hg5⟩))
      have Y := Lib.hid (And.intro hc5 hg5)
      clear hc5 hx5 hg5
      go_wp2_with (fail)
      obtain ⟨hi0, rfl, rfl⟩ := wh_none R.out
      rw [HP.out]
      have hr : readP 5 s x = (none, 11, (wdN x 2).a) := by
        show (match segsP (wdN x 1).t with | none => _ | some l => if _ then _ else _) = _
        rw [← H.out.2.1, ← H.out.2.2.2]
        show (if _ then _ else _) = _
        rw [if_pos hi0]
      rw [hr]
      exact ⟨rfl, _, Y.out.1, rfl, rfl, H.out.1.rd.bel' (only_trans G.out.2.1 Y.out.2)⟩
    | some m =>
      go_region_with (first
        | (go_at_call 39; refine (kinds_code _).mono ?_; rintro e W4 ⟨rfl, rfl⟩)
        | (go_at_call 125; refine (hwh _ _ (by first | exact gr_drew (gr_alloc (Below.refl _ _) _) | exact gr_alloc (Below.refl _ _) _ | exact gr_alloc (gr_drew (Below.refl _ _)) _) (by first | exact (Blk.new _ _ _).drew | exact Blk.new _ _ _)).mono ?_; rintro e W5 ⟨⟨⟨rfl, hc5⟩, _⟩, hx5, hg5⟩))
      have hgr5 : W.grownBy W5 (some g) := only_trans G.out.2.1 hg5
      obtain ⟨hi0, hmi⟩ := wh_some R.out
      have hm4 := idx_lt hi0
      have hmb : 0 ≤ m ∧ m < 4 := by
        have hm4 : (Lib.idxOfS kindsL (wdN x 2).t).toNat < 4 := hm4
        omega
      have Y := Lib.hid (And.intro hc5 (And.intro hgr5 (And.intro hx5 (And.intro hi0 (And.intro hmi HSN.out)))))
      clear hc5 hx5 hg5 hgr5 hi0 hmi hm4 hwh x0 xl
      have hmem := H.out.1.rd.mem.grown H.out.1.rd.blk reader_not Y.out.2.1
      obtain ⟨us, hU, hEa⟩ := hmem.ros
      obtain ⟨dA, dc, rfl⟩ := hU.slice
      obtain ⟨tx, htx⟩ : ∃ q, q = (wdN x 3).t := ⟨_, rfl⟩
      have hn3 := fun V (hc : CurAt V g 92 (rdV rows (.slice wA x.w.length wc) d (.slice dA s.c.ros.length dc) cs pl n 3 0 0 s.c.cap s.c.lim) x.w 3) => next_code g _ _ x.w 3 (wdN x 3) V hc (by decide) (wdN_at (by omega))
      rw [← htx] at hn3
      have hcW := Y.out.1
      have hdg : ∀ k, Value.ownBlock (.slice dA s.c.ros.length dc) = some k → k ≠ g := fun k hk e => by
        subst e
        exact own_blk_ne hU.2 hcW.blk (by decide) hk.symm
      have hb5 := gr_below H.out.1.rd.bel H.out.1.rd.old Y.out.2.1
      have happ : ∀ W6 Z, W5.grownBy W6 (some g) → Below W6.heap.size W6 Z → Blk Z W6.heap.size 70 #[.slice sA sn sc, .int .i64 (m + 1), .string tx] → ∃ gg cap W7, (Builtin.append_ #[25, 25] 25 #[.slice dA s.c.ros.length dc, .slice (some ⟨W6.heap.size, 0, none⟩) 1 1]).run Tryz.prog Z = .ok (.slice (some ⟨gg, 0, none⟩) (s.c.ros.length + 1) cap) W7 ∧
          OwnU 70 3 roC W7 w0.heap.size (.slice (some ⟨gg, 0, none⟩) (s.c.ros.length + 1) cap) (s.c.ros ++ [⟨sl, m + 1, tx⟩]) (us ++ [.slice sA sn sc]) ∧ Z.grownBy W7 (Value.ownBlock (.slice dA s.c.ros.length dc)) := by
        intro W6 Z h6 hZ hb
        have hU6 : OwnU 70 3 roC W6 w0.heap.size (.slice dA s.c.ros.length dc) s.c.ros us := hU.keep fun k cs hk hb => hb.grown h6 (by simpa using hdg k hk)
        obtain ⟨gg, cap, W7, h1, h2, h3, _, _⟩ := (hU6.below hZ).append (P := Tryz.prog) roC_len (by decide) Tryz.underlying25 hi0 hz0 hz1 hz2 rfl (x := ⟨sl, m + 1, tx⟩) (u := .slice sA sn sc) (ad := ⟨W6.heap.size, 0, none⟩) (c := 1) (by
          intro j q hj
          rw [Addr.add_lit, Nat.zero_add]
          exact hb.cell' (by simpa [roC] using hj)) (by
          intro q hq
          simp [roC] at hq
          rcases hq with rfl | rfl | rfl <;> rfl) (by omega) (by decide) (by have h1 := hb5.size; have h2 := h6.size; have h3 := hZ.size; omega) 25
        exact ⟨gg, cap, W7, h1, h2, h3⟩
      obtain ⟨dn, hdn⟩ : ∃ k, k = s.c.ros.length := ⟨_, rfl⟩
      rw [← hdn] at happ
      have c9 : W5.cell? ⟨g, 9, none⟩ = some (.slice dA dn dc) := by rw [hdn]; exact hcW.blk.cell' (i := 9) rfl
      have cgl := hcW.blk.lt
      have T := Lib.hid (And.intro hmem (And.intro hU (And.intro hEa (And.intro htx (And.intro hdg (And.intro hb5 hdn))))))
      have hwr : IntKind.i64.wrap (m + 1) = m + 1 := by
        rcases (show m = 0 ∨ m = 1 ∨ m = 2 ∨ m = 3 by omega) with rfl | rfl | rfl | rfl <;> rfl
      clear hmem hU hEa htx hdg hb5 hdn
      go_wp2_with (fail)
      go_region_with (first
        | (go_at_call 124; refine (hn3 _ (by first | exact hcW | exact hcW.below (gr_drew (Below.refl _ _)))).mono ?_; rintro e W6 ⟨rfl, hc6, hg6⟩
           have hgW6 : W5.grownBy W6 (some g) := (by first | exact hg6 | exact only_trans (only_drew (only_refl _ _)) hg6)
           have n9 : W6.cell? ⟨g, 9, none⟩ = some (.slice dA dn dc) := (by rw [T.out.2.2.2.2.2.2]; exact hc6.blk.cell' (i := 9) rfl)
           have n9l := hc6.blk.lt
           obtain ⟨gg, cap, W7, hrun, hU7, hgw7⟩ := happ W6 (W6.alloc (.cells #[.slice sA sn sc, .int .i64 (m + 1), .string tx] 70)) hgW6 (gr_alloc (Below.refl _ _) _) (Blk.new _ _ _)
           have hgX := ((hc6.blk.call (gr_alloc (Below.refl _ _) (.cells #[.slice sA sn sc, .int .i64 (m + 1), .string tx] 70))).grown hgw7 (by intro e; rw [T.out.2.2.2.2.2.2] at e; exact T.out.2.2.2.2.1 g e.symm rfl))
           have u0 : W7.cell? ⟨g, 9, none⟩ = some (.slice dA dn dc) := (by rw [T.out.2.2.2.2.2.2]; exact hgX.cell' (i := 9) rfl)
           have u1 := hgX.frozen 9
           have u2 := hgX.lt))
      all_goals
        have Z := Lib.hid (And.intro hU7 (And.intro hgw7 (And.intro hgX hgW6)))
        clear hU7 hgw7 hgX hgW6 hc6 hg6 hrun n9 n9l u0 u1 u2 hcW hn3 happ c9 cgl hwr
        go_wp2_with (fail)
        obtain ⟨hU7, hgw7, hgX, hgW6⟩ := Z.out
        obtain ⟨hmem, hU, hEa, htx, hdg, hb5, hdn⟩ := T.out
        have hX : Below W6.heap.size W6 (W6.alloc (.cells #[.slice sA sn sc, .int .i64 (m + 1), .string tx] 70)) := gr_alloc (Below.refl _ _) _
        have hW6 : W.grownBy W6 (some g) := only_trans Y.out.2.1 hgW6
        have hmem6 := hmem.grown Y.out.1.blk reader_not hgW6
        have hU6 : OwnU 70 3 roC W6 w0.heap.size (.slice dA s.c.ros.length dc) s.c.ros us := hU.keep fun k cs hk hb => hb.grown hgW6 (by simpa using hdg k hk)
        have hst : ∀ k cs, Blk W5 k 9 cs → Blk W6 k 9 cs := fun k cs hk => hk.grown hgW6 (by
          intro e
          cases e
          exact hk.ne_ Y.out.1.blk (by decide) rfl)
        have hE6 : Each (fun x u => SegMem W6 w0.heap.size u x.seg) s.c.ros us := hEa.imp fun x u _ hx => hx.keep hst
        have hs6 : SegMem W6 w0.heap.size (.slice sA sn sc) sl := Y.out.2.2.1.keep hst
        rw [HP.out]
        have hr : readP 5 s x = (some { s with c := { s.c with ros := s.c.ros ++ [⟨sl, m + 1, tx⟩] } }, 0, 0) := by
          show (match segsP (wdN x 1).t with | none => _ | some l => if _ then _ else _) = _
          rw [← H.out.2.1, ← H.out.2.2.2]
          show (if _ then _ else _) = _
          rw [if_neg (show ¬ Lib.idxOfS kindsL (wdN x 2).t < 0 by have := Y.out.2.2.2.1; omega), ← Y.out.2.2.2.2.1, ← htx]
        rw [hr]
        have hown := hU7.2
        rw [allL_snoc _ _ hU.1, List.length_append, List.length_singleton] at hown
        have hgw8 : (W6.alloc (.cells #[.slice sA sn sc, .int .i64 (m + 1), .string tx] 70)).grownBy W7 (Value.ownBlock (.slice dA s.c.ros.length dc)) := by rw [← hdn]; exact hgw7
        have hpu := RdMem.pushRoute (s' := { s with c := { s.c with ros := s.c.ros ++ [⟨sl, m + 1, tx⟩] } }) hmem6 hX hU6 hE6 (q := ⟨sl, m + 1, tx⟩) hs6 hown hgw8 rfl rfl rfl rfl
        have hgs : W7.grownBy (W7.setCell ⟨g, 9, none⟩ (.slice (some ⟨gg, 0, none⟩) (dn + 1) cap)) (some g) := only_setCell (only_refl _ _) (Or.inl rfl) _
        have hb0 := gr_below H.out.1.rd.bel H.out.1.rd.old hW6
        have hb1 : Below w0.heap.size w0 W7 := (hb0.trans (hX.mono hb0.size)).grown hgw8 (Nat.le_trans hb0.size hX.size) (fun k hk => (hU.block hk).1)
        have hpu2 := hpu.grown hgX reader_not hgs
        refine ⟨rfl, 4, _, _, _, _, L, ⟨hgX.set_ 9 _, ?_, hb1.setCell H.out.1.rd.old _, H.out.1.rd.old, ?_⟩⟩
        · exact hpu2
        · have h1 := H.out.1.rd.lw
          have h2 := hW6.size
          have h3 := hX.size
          have h4 := hgw7.size
          have h5 := hgs.size
          omega
end Go.Proofs.YthpcbaamkeiffaaGreatDoor
