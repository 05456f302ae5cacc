/-
  read of config's reader, walked: conditions; conditions: sizes.
-/
import Derived.Test.YthpcbaamkeiffaaGreatDoorMCfO
namespace Go.Proofs.YthpcbaamkeiffaaGreatDoor
open Go.RowKit Go.Shelf
set_option linter.unusedVariables false
set_option linter.unusedSimpArgs false

theorem RdMem.pushCond {W X W1 : World} {B L : Nat} {s : Rd} {d r cs pl : Value} (h : RdMem W B L s d r cs pl) (hX : Below W.heap.size W X) {us : List Value} (hU : OwnU 68 5 cdC W L cs s.cds us)
    {c : Cd} {v' : Value} (hown : W1.ownsRow L 68 5 v' (s.cds.length + 1) (allL cdC s.cds us ++ cdC c (.bool false))) (hg : X.grownBy W1 cs.ownBlock) {s' : Rd}
    (h1 : s'.c = s.c) (h3 : s'.cds = s.cds ++ [c]) (h4 : s'.pl = s.pl) : RdMem W1 B L s' d r v' pl := by
  have hk := fun k t cs (hb : Blk W k t cs) (ht : t ≠ 68) => own_others (own_below hU.2 hX (Nat.le_refl _)) hg k t cs (hb.call hX) ht
  have hkc : ∀ k c, k < L → Blk W k 68 c → Blk W1 k 68 c := fun k c hkL hb => (hb.call hX).grown hg (fun e => by have := (hU.block e.symm).1; omega)
  obtain ⟨q1, q2, _, q4, q5⟩ := h
  refine ⟨by rw [h1]; exact q1.keep (fun k t cs ht hb => hk k t cs hb (by rcases ht with rfl | rfl <;> decide)) hkc, by rw [h1]; exact q2.keep (fun k cs _ hb => hk k _ cs hb (by decide)) (fun k cs hb => hk k _ cs hb (by decide)), ?_, by rw [h4]; exact own_blks q4 (fun k cs hb => hk k _ cs hb (by decide)), q5⟩
  rw [h3]
  refine ⟨us ++ [.bool false], by simp [hU.1], ?_⟩
  rw [allL_snoc _ _ hU.1, List.length_append, List.length_singleton]
  exact hown
theorem infoCond : (Tryz.prog.info? 68).map (fun i => (i.zero, i.size, i.bytes)) = some (some (.agg #[.string ⟨#[]⟩, .bool false, .string ⟨#[]⟩, .bool false, .bool false]), 5, 48) := by kernel_rfl
theorem boolA_at {set : List Bool} {k : Nat} (h : k < set.length) : (boolA set)[k]? = some (.bool (set.getD k false)) := by
  unfold boolA
  rw [List.getElem?_toArray, List.getElem?_map, List.getElem?_eq_getElem h, List.getD_eq_getElem?_getD, List.getElem?_eq_getElem h]; rfl

/-- The first two words are taken; the condition lies in block bx. -/
structure IfSt (W : World) (g : Nat) (cells : Array Value) (ws : List Wd) (bx : Nat) (pt pp : ByteArray) (V : World) : Prop where
  cur : CurAt V g 92 cells ws 3
  box : Blk V bx 68 #[.string pt, .bool false, .string pp, .bool false, .bool false]
  gr : W.grownBy V (some g)
  old : W.heap.size ≤ bx
  far : g < bx
theorem IfSt.of_alloc {W W3 : World} {g : Nat} {cells : Array Value} {ws : List Wd} {pt pp : ByteArray} (hc : CurAt W3 g 92 cells ws 3) (hg : W.grownBy W3 (some g)) :
    IfSt W g cells ws W3.heap.size pt pp (W3.alloc (.cells #[.string pt, .bool false, .string pp, .bool false, .bool false] 68)) :=
  ⟨hc.below (gr_alloc (Below.refl _ _) _), Blk.new _ _ _, only_alloc hg _, hg.size, hc.blk.lt⟩
theorem IfSt.of_set {W W3 : World} {g bx : Nat} {cells : Array Value} {ws : List Wd} {pt pp : ByteArray} (hc : CurAt W3 g 92 cells ws 3) (hg : W.grownBy W3 (some g)) (hb : Blk W3 bx 68 #[.string ⟨#[]⟩, .bool false, .string ⟨#[]⟩, .bool false, .bool false]) (ho : W.heap.size ≤ bx) (hf : g < bx) :
    IfSt W g cells ws bx pt pp (((((W3.setCell ⟨bx, 0, none⟩ (.string pt)).setCell ⟨bx, 1, none⟩ (.bool false)).setCell ⟨bx, 2, none⟩ (.string pp)).setCell ⟨bx, 3, none⟩ (.bool false)).setCell ⟨bx, 4, none⟩ (.bool false)) :=
  ⟨((((hc.far hf _).far hf _).far hf _).far hf _).far hf _, ((((hb.set_ 0 _).set_ 1 _).set_ 2 _).set_ 3 _).set_ 4 _,
    only_setCell (only_setCell (only_setCell (only_setCell (only_setCell hg (Or.inr ho) _) (Or.inr ho) _) (Or.inr ho) _) (Or.inr ho) _) (Or.inr ho) _, ho, hf⟩
/-- What follows is shown once, for every block and world. -/
theorem use_key {P : Prop} {G : Nat → World → Prop} (S : Nat → World → Prop) (h1 : (∀ b V, S b V → G b V) → P) (h2 : ∀ b V, S b V → G b V) : P := h1 h2
attribute [-go_sem] Builtin.append_
set_option maxRecDepth 100000 in
set_option maxHeartbeats 8000000 in
theorem read_if (w0 : World) (hE : Env w0) (rows : Value) (g n : Nat) (wA : Option Addr) (wc : Nat) (x : Rw) (s : Rd) (d r cs pl : Value) (L : Nat) (W : World) (h : RowAt w0 rows g W n wA wc x s d r cs pl L) (at_ : Int) (hl : 3 ≤ x.w.length) (hdl : s.cds.length ≤ 100000) :
    Calls Tryz.prog 102 #[.pointer (some ⟨g, 0, none⟩), .string sIf, .int .i64 at_] W (ReadP w0 rows g n (.slice wA x.w.length wc) (readP 3 s x)) := by
  obtain ⟨i0, hi0, hz0, hz1, hz2⟩ := info_parts infoCond
  have hn1 := fun W2 (hc : CurAt W2 g 92 (rdV rows (.slice wA x.w.length wc) d r cs pl n 1 0 0 s.c.cap s.c.lim) x.w 1) => next_code g _ _ x.w 1 (wdN x 1) W2 hc (by decide) (wdN_at (by omega))
  have hcW := h.cur
  obtain ⟨pt, hpt⟩ : ∃ p, p = (wdN x 1).t := ⟨_, rfl⟩
  obtain ⟨pp, hpp⟩ : ∃ p, p = (wdN x 2).t := ⟨_, rfl⟩
  have H := Lib.hid (And.intro h (And.intro hpt hpp))
  rw [← hpt] at hn1
  clear h hpt
  show Calls Tryz.prog 102 #[.pointer (some ⟨g, 0, none⟩), .string ⟨#[105, 102]⟩, .int .i64 at_] W _
  obtain ⟨post, hpost⟩ : ∃ p, p = ReadP w0 rows g n (.slice wA x.w.length wc) (readP 3 s x) := ⟨_, rfl⟩
  rw [← hpost]
  have HP := Lib.hid hpost
  clear hpost
  have hn2 := fun W2 (hc : CurAt W2 g 92 (rdV rows (.slice wA x.w.length wc) d r cs pl n 2 0 0 s.c.cap s.c.lim) x.w 2) => next_code g _ _ x.w 2 (wdN x 2) W2 hc (by decide) (wdN_at (by omega))
  rw [← hpp] at hn2
  clear hpp
  go_enter Tryz.func102, Tryz.ntmps102
  go_wp2_with (fail)
  have hWg : g ≠ W.heap.size := by have := hcW.blk.lt; omega
  have hWl : g < W.heap.size := hcW.blk.lt
  obtain ⟨res, hres⟩ : ∃ q, q = optsP condL false (x.w.drop 3) [false, false, false] 0 false zeroF := ⟨_, rfl⟩
  have HR := Lib.hid hres
  have hopt := fun (V : World) (hc : CurAt V g 92 (rdV rows (.slice wA x.w.length wc) d r cs pl n 3 0 0 s.c.cap s.c.lim) x.w 3) =>
    opts_cond V g (rdV rows (.slice wA x.w.length wc) d r cs pl n 3 0 0 s.c.cap s.c.lim) x.w V.heap.size (V.alloc (.cells #[.string sNot, .string sNocase, .string sOr] 9)) hc.blk.lt (only_alloc (only_refl _ _) _) (hc.below (gr_alloc (Below.refl _ _) _)) (Blk.new _ _ _) rfl hl H.out.1.len H.out.1.size
  rw [← hres] at hopt
  clear hres
  apply use_key (S := fun bx V => IfSt W g (rdV rows (.slice wA x.w.length wc) d r cs pl n 3 0 0 s.c.cap s.c.lim) x.w bx pt pp V)
  case h1 =>
    intro key
    go_region_with (first
      | (go_at_call 124; refine (hn1 _ (by first | exact hcW | exact hcW.below (gr_drew (Below.refl _ _)))).mono ?_; rintro e W2 ⟨rfl, hc2, hg2⟩
         have hgW2 : W.grownBy W2 (some g) := (by first | exact hg2 | exact only_trans (only_drew (only_refl _ _)) hg2)
         have hW2 := hgW2.size
         have hWg2 : g ≠ W2.heap.size := (by have := hc2.blk.lt; omega))
      | (go_at_call 124; refine (hn1 _ (by first | exact hcW.below (gr_alloc (Below.refl _ _) _) | exact hcW.below (gr_drew (gr_alloc (Below.refl _ _) _)) | exact hcW.below (gr_alloc (gr_drew (Below.refl _ _)) _))).mono ?_; rintro e W2 ⟨rfl, hc2, hg2⟩
         have hgW2 : W.grownBy W2 (some g) := (by first | exact only_trans (only_alloc (only_refl _ _) _) hg2 | exact only_trans (only_drew (only_alloc (only_refl _ _) _)) hg2 | exact only_trans (only_alloc (only_drew (only_refl _ _)) _) hg2)
         have hbx2 : Blk W2 W.heap.size 68 #[.string ⟨#[]⟩, .bool false, .string ⟨#[]⟩, .bool false, .bool false] := (by first | exact (Blk.new _ _ _).grown hg2 (by simpa using Ne.symm hWg) | exact (Blk.new _ _ _).drew.grown hg2 (by simpa using Ne.symm hWg) | exact Blk.grown (blk_at rfl) hg2 (by simpa using Ne.symm hWg)))
      | (go_at_call 124; refine (hn2 _ (by first | exact hc2 | exact hc2.below (gr_drew (Below.refl _ _)))).mono ?_; rintro e W3 ⟨rfl, hc3, hg3⟩
         have hgW3 : W.grownBy W3 (some g) := (by first | exact only_trans hgW2 hg3 | exact only_trans (only_drew hgW2) hg3)
         try (have hbx3 : Blk W3 W.heap.size 68 #[.string ⟨#[]⟩, .bool false, .string ⟨#[]⟩, .bool false, .bool false] := (by first | exact hbx2.grown hg3 (by simpa using Ne.symm hWg) | exact hbx2.drew.grown hg3 (by simpa using Ne.symm hWg))
              have z0 : W3.cell? ⟨W.heap.size, 0, none⟩ = some (.string ⟨#[]⟩) := hbx3.cell' (i := 0) rfl
              have z1 : W3.cell? ⟨W.heap.size, 1, none⟩ = some (.bool false) := hbx3.cell' (i := 1) rfl
              have z2 : W3.cell? ⟨W.heap.size, 2, none⟩ = some (.string ⟨#[]⟩) := hbx3.cell' (i := 2) rfl
              have z3 : W3.cell? ⟨W.heap.size, 3, none⟩ = some (.bool false) := hbx3.cell' (i := 3) rfl
              have z4 : W3.cell? ⟨W.heap.size, 4, none⟩ = some (.bool false) := hbx3.cell' (i := 4) rfl
              have f0 := hbx3.frozen 0
              have f1 := hbx3.frozen 1
              have f2 := hbx3.frozen 2
              have f3 := hbx3.frozen 3
              have f4 := hbx3.frozen 4
              have fl := hbx3.lt))
      | (go_at_call 124; refine (hn2 _ (by first | exact hc2.below (gr_alloc (Below.refl _ _) _) | exact hc2.below (gr_drew (gr_alloc (Below.refl _ _) _)) | exact hc2.below (gr_alloc (gr_drew (Below.refl _ _)) _))).mono ?_; rintro e W3 ⟨rfl, hc3, hg3⟩
         have hgW3 : W.grownBy W3 (some g) := (by first | exact only_trans (only_alloc hgW2 _) hg3 | exact only_trans (only_drew (only_alloc hgW2 _)) hg3 | exact only_trans (only_alloc (only_drew hgW2) _) hg3)
         have hbx3 : Blk W3 W2.heap.size 68 #[.string ⟨#[]⟩, .bool false, .string ⟨#[]⟩, .bool false, .bool false] := (by first | exact (Blk.new _ _ _).grown hg3 (by simpa using Ne.symm hWg2) | exact (Blk.new _ _ _).drew.grown hg3 (by simpa using Ne.symm hWg2) | exact Blk.grown (blk_at rfl) hg3 (by simpa using Ne.symm hWg2))
         have z0 : W3.cell? ⟨W2.heap.size, 0, none⟩ = some (.string ⟨#[]⟩) := hbx3.cell' (i := 0) rfl
         have z1 : W3.cell? ⟨W2.heap.size, 1, none⟩ = some (.bool false) := hbx3.cell' (i := 1) rfl
         have z2 : W3.cell? ⟨W2.heap.size, 2, none⟩ = some (.string ⟨#[]⟩) := hbx3.cell' (i := 2) rfl
         have z3 : W3.cell? ⟨W2.heap.size, 3, none⟩ = some (.bool false) := hbx3.cell' (i := 3) rfl
         have z4 : W3.cell? ⟨W2.heap.size, 4, none⟩ = some (.bool false) := hbx3.cell' (i := 4) rfl
         have f0 := hbx3.frozen 0
         have f1 := hbx3.frozen 1
         have f2 := hbx3.frozen 2
         have f3 := hbx3.frozen 3
         have f4 := hbx3.frozen 4
         have fl := hbx3.lt))
    · refine gen_at (p := IfSt W g (rdV rows (.slice wA x.w.length wc) d r cs pl n 3 0 0 s.c.cap s.c.lim) x.w W3.heap.size pt pp) (IfSt.of_alloc hc3 hgW3) ?_
      obtain ⟨bx, hbx⟩ : ∃ b, b = W3.heap.size := ⟨_, rfl⟩
      rw [← hbx]
      intro V hV
      exact key bx V hV
    · refine gen_at (p := IfSt W g (rdV rows (.slice wA x.w.length wc) d r cs pl n 3 0 0 s.c.cap s.c.lim) x.w W2.heap.size pt pp) (IfSt.of_set hc3 hgW3 hbx3 (by omega) (by omega)) ?_
      obtain ⟨bx, hbx⟩ : ∃ b, b = W2.heap.size := ⟨_, rfl⟩
      rw [← hbx]
      intro V hV
      exact key bx V hV
    · refine gen_at (p := IfSt W g (rdV rows (.slice wA x.w.length wc) d r cs pl n 3 0 0 s.c.cap s.c.lim) x.w W.heap.size pt pp) (IfSt.of_set hc3 hgW3 hbx3 (Nat.le_refl _) hWl) ?_
      obtain ⟨bx, hbx⟩ : ∃ b, b = W.heap.size := ⟨_, rfl⟩
      rw [← hbx]
      intro V hV
      exact key bx V hV
  case h2 =>
    intro bx V hV
    have hop := hopt V hV.cur
    have hop : Calls Tryz.prog 126 #[.pointer (some ⟨g, 0, none⟩), .slice (some ⟨V.heap.size, 0, none⟩) 3 3, .pointer none] (V.alloc (.cells #[.string ⟨#[110, 111, 116]⟩, .string ⟨#[110, 111, 99, 97, 115, 101]⟩, .string ⟨#[111, 114]⟩] 9)) (OptsC V g 92 (rdV rows (.slice wA x.w.length wc) d r cs pl n 3 0 0 s.c.cap s.c.lim) x.w (V.alloc (.cells #[.string sNot, .string sNocase, .string sOr] 9)).heap.size 3 res) := hop
    have hV2 := Lib.hid hV
    clear hV hn1 hn2 hcW
    go_wp2_with (fail)
    refine hop.mono ?_
    rintro e W4 ⟨hm, hgV⟩
    clear hop hopt
    obtain ⟨bs, hbs⟩ : ∃ b, b = (V.alloc (.cells #[.string sNot, .string sNocase, .string sOr] 9)).heap.size := ⟨_, rfl⟩
    rw [← hbs] at hm
    clear hbs
    obtain ⟨v, er, a⟩ := res
    cases v with
    | none =>
      obtain ⟨rfl, u, hb⟩ := hm
      have Y := Lib.hid (And.intro hb hgV)
      clear hb hgV
      go_wp2_with (fail)
      rw [HP.out]
      have hr : readP 3 s x = (none, er, a) := by
        show (match optsP condL false (x.w.drop 3) [false, false, false] 0 false zeroF with | (some (set, _), _) => _ | (none, e) => _) = _
        rw [← HR.out]
      rw [hr]
      exact ⟨rfl, _, Y.out.1, rfl, rfl, H.out.1.rd.bel' (only_trans hV2.out.gr Y.out.2)⟩
    | some q =>
      obtain ⟨set, f⟩ := q
      obtain ⟨rfl, hc4, hbs, hsl⟩ := hm
      have hx4 := hV2.out.box.grown hgV (by have := hV2.out.far; simp; omega)
      have b0 := hbs.cell' (boolA_at (show 0 < set.length by omega))
      have b1 := hbs.cell' (boolA_at (show 1 < set.length by omega))
      have b2 := hbs.cell' (boolA_at (show 2 < set.length by omega))
      have bl := hbs.lt
      have k1 : W4.cell? ⟨bx, 1, none⟩ = some (.bool false) := hx4.cell' (i := 1) rfl
      have k3 : W4.cell? ⟨bx, 3, none⟩ = some (.bool false) := hx4.cell' (i := 3) rfl
      have k4 : W4.cell? ⟨bx, 4, none⟩ = some (.bool false) := hx4.cell' (i := 4) rfl
      have j1 := hx4.frozen 1
      have j3 := hx4.frozen 3
      have j4 := hx4.frozen 4
      have jl := hx4.lt
      obtain ⟨s0, hs0⟩ : ∃ b, b = set.getD 0 false := ⟨_, rfl⟩
      obtain ⟨s1, hs1⟩ : ∃ b, b = set.getD 1 false := ⟨_, rfl⟩
      obtain ⟨s2, hs2⟩ : ∃ b, b = set.getD 2 false := ⟨_, rfl⟩
      rw [← hs0] at b0
      rw [← hs1] at b1
      rw [← hs2] at b2
      have hbb : bs ≠ bx := hbs.ne_ hx4 (by decide)
      have Y := Lib.hid (And.intro hc4 (And.intro hgV (And.intro hx4 (And.intro hs0 (And.intro hs1 hs2)))))
      clear hc4 hgV hx4 hbs hsl hs0 hs1 hs2
      go_wp2_with (fail)
      go_region_held_law (fun w' => w'.cell? ⟨bs, 0, none⟩ = some (.bool s0) ∧ w'.cell? ⟨bs, 1, none⟩ = some (.bool s1) ∧ w'.cell? ⟨bs, 2, none⟩ = some (.bool s2))
        (first
          | (go_split_ands
             try simp only [World.cell?_drew]
             refine ⟨?_, ?_, ?_⟩ <;> assumption)
          | (go_split_ands
             try simp only [World.cell?_drew]
             refine ⟨?_, ?_, ?_⟩ <;> (rw [World.cell?_of_block (Below.heap_setCell _ _ _ _ (by exact hbb))]; assumption)))
        (fail)
      have hgV5 : W.grownBy (((W4.setCell ⟨bx, 1, none⟩ (.bool s0)).setCell ⟨bx, 3, none⟩ (.bool s1)).setCell ⟨bx, 4, none⟩ (.bool s2)).drew (some g) := only_drew (only_setCell (only_setCell (only_setCell (only_trans hV2.out.gr Y.out.2.1) (Or.inr hV2.out.old) _) (Or.inr hV2.out.old) _) (Or.inr hV2.out.old) _)
      have hc5 : CurAt (((W4.setCell ⟨bx, 1, none⟩ (.bool s0)).setCell ⟨bx, 3, none⟩ (.bool s1)).setCell ⟨bx, 4, none⟩ (.bool s2)).drew g 92 (rdV rows (.slice wA x.w.length wc) d r cs pl n x.w.length 0 0 s.c.cap s.c.lim) x.w x.w.length := (((Y.out.1.far (p := ⟨bx, 1, none⟩) hV2.out.far _).far (p := ⟨bx, 3, none⟩) hV2.out.far _).far (p := ⟨bx, 4, none⟩) hV2.out.far _).below (gr_drew (Below.refl _ _))
      have hx5 : Blk (((W4.setCell ⟨bx, 1, none⟩ (.bool s0)).setCell ⟨bx, 3, none⟩ (.bool s1)).setCell ⟨bx, 4, none⟩ (.bool s2)).drew bx 68 #[.string pt, .bool s0, .string pp, .bool s1, .bool s2] := (((Y.out.2.2.1.set_ 1 (.bool s0)).set_ 3 (.bool s1)).set_ 4 (.bool s2)).drew
      generalize (((W4.setCell ⟨bx, 1, none⟩ (.bool s0)).setCell ⟨bx, 3, none⟩ (.bool s1)).setCell ⟨bx, 4, none⟩ (.bool s2)).drew = V5 at hgV5 hc5 hx5 ⊢
      have hmem := H.out.1.rd.mem.grown H.out.1.rd.blk reader_not hgV5
      obtain ⟨us, hU⟩ := hmem.cds
      obtain ⟨dA, dc, rfl⟩ := hU.slice
      have hX : Below V5.heap.size V5 (V5.alloc (.cells #[.string pt, .bool s0, .string pp, .bool s1, .bool s2] 68)).drew := gr_drew (gr_alloc (Below.refl _ _) _)
      have hUX := hU.below hX
      have hLV : L ≤ V5.heap.size := Nat.le_trans H.out.1.rd.lw hgV5.size
      obtain ⟨gg, cap, W1, hrun, hU1, hgw, _, hlt⟩ := hUX.append (P := Tryz.prog) cdC_len (by decide) Tryz.underlying62 hi0 hz0 hz1 hz2 rfl (x := ⟨pt, s0, pp, s1, s2⟩) (u := .bool false) (ad := ⟨V5.heap.size, 0, none⟩) (c := 1) (by
          intro j q hj
          rw [Addr.add_lit, Nat.zero_add]
          have hbn : Blk (V5.alloc (.cells #[.string pt, .bool s0, .string pp, .bool s1, .bool s2] 68)).drew V5.heap.size 68 #[.string pt, .bool s0, .string pp, .bool s1, .bool s2] := Blk.new _ _ _
          exact hbn.cell' (by simpa [cdC] using hj)) (by
          intro q hq
          simp [cdC] at hq
          rcases hq with rfl | rfl | rfl | rfl | rfl <;> rfl) (by omega) (by decide) (by have := hX.size; omega) 62
      have hdg : ∀ k, Value.ownBlock (.slice dA s.cds.length dc) = some k → k ≠ g := fun k hk e => by
        subst e
        exact own_blk_ne hU.2 hc5.blk (by decide) hk.symm
      have hgX := (hc5.blk.call hX).grown hgw (by intro e; exact hdg g e.symm rfl)
      obtain ⟨dn, hdn⟩ : ∃ k, k = s.cds.length := ⟨_, rfl⟩
      have v0 : V5.cell? ⟨g, 10, none⟩ = some (.slice dA dn dc) := by rw [hdn]; exact hc5.blk.cell' (i := 10) rfl
      have x0 : V5.cell? ⟨bx, 0, none⟩ = some (.string pt) := hx5.cell' (i := 0) rfl
      have x1 : V5.cell? ⟨bx, 1, none⟩ = some (.bool s0) := hx5.cell' (i := 1) rfl
      have x2 : V5.cell? ⟨bx, 2, none⟩ = some (.string pp) := hx5.cell' (i := 2) rfl
      have x3 : V5.cell? ⟨bx, 3, none⟩ = some (.bool s1) := hx5.cell' (i := 3) rfl
      have x4 : V5.cell? ⟨bx, 4, none⟩ = some (.bool s2) := hx5.cell' (i := 4) rfl
      have vl := hc5.blk.lt
      have xl := hx5.lt
      have u0 : W1.cell? ⟨g, 10, none⟩ = some (.slice dA dn dc) := by rw [hdn]; exact hgX.cell' (i := 10) rfl
      have u1 := hgX.frozen 10
      have u2 := hgX.lt
      rw [← hdn] at hrun
      have Z := Lib.hid (And.intro hX (And.intro hU1 (And.intro hgw (And.intro hgX (And.intro hU (And.intro hdn (And.intro hmem (And.intro hgV5 hLV))))))))
      clear hX hdg hU hUX hU1 hgw hgX hdn hmem hgV5 hLV hc5 hx5 b0 b1 b2 bl k1 k3 k4 j1 j3 j4 jl
      go_wp2_with (fail)
      go_region
      all_goals go_wp2_with (fail)
      all_goals
        obtain ⟨hX, hU1, hgw, hgX, hU, hdn, hmem, hgV5, hLV⟩ := Z.out
        rw [HP.out]
        have hr : readP 3 s x = (some { s with cds := s.cds ++ [⟨pt, s0, pp, s1, s2⟩] }, 0, 0) := by
          show (match optsP condL false (x.w.drop 3) [false, false, false] 0 false zeroF with | (some (set, _), _) => _ | (none, e) => _) = _
          rw [← HR.out, Y.out.2.2.2.1, Y.out.2.2.2.2.1, Y.out.2.2.2.2.2, H.out.2.1, H.out.2.2]
        rw [hr]
        have hown := hU1.2
        rw [allL_snoc _ _ hU.1, List.length_append, List.length_singleton] at hown
        have hpu := RdMem.pushCond (s' := { s with cds := s.cds ++ [⟨pt, s0, pp, s1, s2⟩] }) hmem hX hU hown hgw rfl rfl rfl
        have hgs : W1.grownBy (W1.setCell ⟨g, 10, none⟩ (.slice (some ⟨gg, 0, none⟩) (dn + 1) cap)) (some g) := only_setCell (only_refl _ _) (Or.inl rfl) _
        have hb0 := gr_below H.out.1.rd.bel H.out.1.rd.old hgV5
        have hb1 : Below w0.heap.size w0 W1 := (hb0.trans (hX.mono hb0.size)).grown hgw (Nat.le_trans hb0.size hX.size) (fun k hk => Nat.le_trans H.out.1.rd.mem.lb (hU.block hk).1)
        have hpu2 := hpu.grown hgX reader_not hgs
        refine ⟨rfl, x.w.length, _, _, _, _, L, ⟨hgX.set_ 10 _, ?_, hb1.setCell H.out.1.rd.old _, H.out.1.rd.old, ?_⟩⟩
        · rw [← hdn] at hpu2
          exact hpu2
        · have h3 := hX.size
          have h4 := hgw.size
          have h5 := hgs.size
          omega
end Go.Proofs.YthpcbaamkeiffaaGreatDoor
