/-
  read of config's reader, walked: rules; conditions: sizes.
-/
import Derived.Test.YthpcbaamkeiffaaGreatDoorMCfR
namespace Go.Proofs.YthpcbaamkeiffaaGreatDoor
open Go.RowKit Go.Shelf
set_option linter.unusedVariables false
set_option linter.unusedSimpArgs false

/-- The first two words are taken; the rule lies in block bx. -/
structure RuSt (W : World) (g : Nat) (cells : Array Value) (ws : List Wd) (bx : Nat) (pt pp : ByteArray) (cA : Option Addr) (cn cc : Nat) (V : World) : Prop where
  cur : CurAt V g 92 cells ws 3
  box : Blk V bx 66 (ruA pt false (.slice cA cn cc) pp zeroF)
  gr : W.grownBy V (some g)
  old : W.heap.size ≤ bx
  far : g < bx
theorem blk_one {w : World} {b : Nat} {T : TypeId} {X Y : Array Value} (h : Blk w b T X) (k : Nat) (v : Value) (hY : X.setIfInBounds k v = Y) : Blk (w.setCell ⟨b, k, none⟩ v) b T Y := by
  rw [← hY]
  exact h.set_ k v
theorem RuSt.of_alloc {W W3 : World} {g : Nat} {cells : Array Value} {ws : List Wd} {pt pp : ByteArray} {cA : Option Addr} {cn cc : Nat} (hc : CurAt W3 g 92 cells ws 3) (hg : W.grownBy W3 (some g)) :
    RuSt W g cells ws W3.heap.size pt pp cA cn cc (W3.alloc (.cells #[.string pt, .bool false, .slice cA cn cc, .string pp, .bool false, .bool false, .bool false, .bool false, .bool false, .bool false, .bool false, .bool false, .int .i64 0, .int .i64 0] 66)) :=
  ⟨hc.below (gr_alloc (Below.refl _ _) _), Blk.new _ _ _, only_alloc hg _, hg.size, hc.blk.lt⟩
set_option maxHeartbeats 4000000 in
theorem RuSt.of_set {W W3 : World} {g bx : Nat} {cells : Array Value} {ws : List Wd} {pt pp : ByteArray} {cA : Option Addr} {cn cc : Nat} (hc : CurAt W3 g 92 cells ws 3) (hg : W.grownBy W3 (some g)) (hb : Blk W3 bx 66 #[.string ⟨#[]⟩, .bool false, .slice none 0 0, .string ⟨#[]⟩, .bool false, .bool false, .bool false, .bool false, .bool false, .bool false, .bool false, .bool false, .int .i64 0, .int .i64 0]) (ho : W.heap.size ≤ bx) (hf : g < bx) :
    RuSt W g cells ws bx pt pp cA cn cc ((((((((((((((W3.setCell ⟨bx, 0, none⟩ (.string pt)).setCell ⟨bx, 1, none⟩ (.bool false)).setCell ⟨bx, 2, none⟩ (.slice cA cn cc)).setCell ⟨bx, 3, none⟩ (.string pp)).setCell ⟨bx, 4, none⟩ (.bool false)).setCell ⟨bx, 5, none⟩ (.bool false)).setCell ⟨bx, 6, none⟩ (.bool false)).setCell ⟨bx, 7, none⟩ (.bool false)).setCell ⟨bx, 8, none⟩ (.bool false)).setCell ⟨bx, 9, none⟩ (.bool false)).setCell ⟨bx, 10, none⟩ (.bool false)).setCell ⟨bx, 11, none⟩ (.bool false)).setCell ⟨bx, 12, none⟩ (.int .i64 0)).setCell ⟨bx, 13, none⟩ (.int .i64 0)) :=
  ⟨((((((((((((((hc.far hf _).far hf _).far hf _).far hf _).far hf _).far hf _).far hf _).far hf _).far hf _).far hf _).far hf _).far hf _).far hf _).far hf _), (blk_one (blk_one (blk_one (blk_one (blk_one (blk_one (blk_one (blk_one (blk_one (blk_one (blk_one (blk_one (blk_one (blk_one hb 0 (.string pt) (Y := #[.string pt, .bool false, .slice none 0 0, .string ⟨#[]⟩, .bool false, .bool false, .bool false, .bool false, .bool false, .bool false, .bool false, .bool false, .int .i64 0, .int .i64 0]) rfl) 1 (.bool false) (Y := #[.string pt, .bool false, .slice none 0 0, .string ⟨#[]⟩, .bool false, .bool false, .bool false, .bool false, .bool false, .bool false, .bool false, .bool false, .int .i64 0, .int .i64 0]) rfl) 2 (.slice cA cn cc) (Y := #[.string pt, .bool false, .slice cA cn cc, .string ⟨#[]⟩, .bool false, .bool false, .bool false, .bool false, .bool false, .bool false, .bool false, .bool false, .int .i64 0, .int .i64 0]) rfl) 3 (.string pp) (Y := #[.string pt, .bool false, .slice cA cn cc, .string pp, .bool false, .bool false, .bool false, .bool false, .bool false, .bool false, .bool false, .bool false, .int .i64 0, .int .i64 0]) rfl) 4 (.bool false) (Y := #[.string pt, .bool false, .slice cA cn cc, .string pp, .bool false, .bool false, .bool false, .bool false, .bool false, .bool false, .bool false, .bool false, .int .i64 0, .int .i64 0]) rfl) 5 (.bool false) (Y := #[.string pt, .bool false, .slice cA cn cc, .string pp, .bool false, .bool false, .bool false, .bool false, .bool false, .bool false, .bool false, .bool false, .int .i64 0, .int .i64 0]) rfl) 6 (.bool false) (Y := #[.string pt, .bool false, .slice cA cn cc, .string pp, .bool false, .bool false, .bool false, .bool false, .bool false, .bool false, .bool false, .bool false, .int .i64 0, .int .i64 0]) rfl) 7 (.bool false) (Y := #[.string pt, .bool false, .slice cA cn cc, .string pp, .bool false, .bool false, .bool false, .bool false, .bool false, .bool false, .bool false, .bool false, .int .i64 0, .int .i64 0]) rfl) 8 (.bool false) (Y := #[.string pt, .bool false, .slice cA cn cc, .string pp, .bool false, .bool false, .bool false, .bool false, .bool false, .bool false, .bool false, .bool false, .int .i64 0, .int .i64 0]) rfl) 9 (.bool false) (Y := #[.string pt, .bool false, .slice cA cn cc, .string pp, .bool false, .bool false, .bool false, .bool false, .bool false, .bool false, .bool false, .bool false, .int .i64 0, .int .i64 0]) rfl) 10 (.bool false) (Y := #[.string pt, .bool false, .slice cA cn cc, .string pp, .bool false, .bool false, .bool false, .bool false, .bool false, .bool false, .bool false, .bool false, .int .i64 0, .int .i64 0]) rfl) 11 (.bool false) (Y := #[.string pt, .bool false, .slice cA cn cc, .string pp, .bool false, .bool false, .bool false, .bool false, .bool false, .bool false, .bool false, .bool false, .int .i64 0, .int .i64 0]) rfl) 12 (.int .i64 0) (Y := #[.string pt, .bool false, .slice cA cn cc, .string pp, .bool false, .bool false, .bool false, .bool false, .bool false, .bool false, .bool false, .bool false, .int .i64 0, .int .i64 0]) rfl) 13 (.int .i64 0) (Y := #[.string pt, .bool false, .slice cA cn cc, .string pp, .bool false, .bool false, .bool false, .bool false, .bool false, .bool false, .bool false, .bool false, .int .i64 0, .int .i64 0]) rfl), (only_setCell (only_setCell (only_setCell (only_setCell (only_setCell (only_setCell (only_setCell (only_setCell (only_setCell (only_setCell (only_setCell (only_setCell (only_setCell (only_setCell hg (Or.inr ho) _) (Or.inr ho) _) (Or.inr ho) _) (Or.inr ho) _) (Or.inr ho) _) (Or.inr ho) _) (Or.inr ho) _) (Or.inr ho) _) (Or.inr ho) _) (Or.inr ho) _) (Or.inr ho) _) (Or.inr ho) _) (Or.inr ho) _) (Or.inr ho) _), ho, hf⟩

theorem RdMem.pushPl {W X W1 : World} {B L : Nat} {s : Rd} {d r cs pl : Value} (h : RdMem W B L s d r cs pl) (hX : Below W.heap.size W X) {v' : Value} {a : Int} (hown : IntMem W1 B v' (s.pl ++ [a])) (hg : X.grownBy W1 pl.ownBlock) {s' : Rd}
    (h1 : s'.c.dirs = s.c.dirs) (h2 : s'.c.ros = s.c.ros) (h3 : s'.cds = s.cds) (h4 : s'.pl = s.pl ++ [a]) : RdMem W1 B L s' d r cs v' := by
  have hk := fun k t cs (hb : Blk W k t cs) (ht : t ≠ 3) => own_others (own_below h.pl hX (Nat.le_refl _)) hg k t cs (hb.call hX) ht
  obtain ⟨q1, q2, ⟨uc, q3⟩, q4, q5⟩ := h
  refine ⟨by rw [h1]; exact q1.keep (fun k t cs ht hb => hk k t cs hb (by rcases ht with rfl | rfl <;> decide)) (fun k cs _ hb => hk k _ cs hb (by decide)), by rw [h2]; exact q2.keep (fun k cs _ hb => hk k _ cs hb (by decide)) (fun k cs hb => hk k _ cs hb (by decide)), by rw [h3]; exact ⟨uc, q3.keep fun k cs _ hb => hk k _ cs hb (by decide)⟩, by rw [h4]; exact hown, q5⟩
theorem infoRule : (Tryz.prog.info? 66).map (fun i => (i.zero, i.size, i.bytes)) = some (some (.agg #[.string ⟨#[]⟩, .bool false, .slice none 0 0, .string ⟨#[]⟩, .bool false, .bool false, .bool false, .bool false, .bool false, .bool false, .bool false, .bool false, .int .i64 0, .int .i64 0]), 14, 88) := by kernel_rfl
theorem infoInt : (Tryz.prog.info? 3).map (fun i => (i.zero, i.size, i.bytes)) = some (some (.int .i64 0), 1, 8) := by kernel_rfl
attribute [-go_sem] Builtin.append_
set_option maxRecDepth 100000 in
set_option maxHeartbeats 16000000 in
theorem read_rule (w0 : World) (hE : Env w0) (rows : Value) (g n : Nat) (wA : Option Addr) (wc : Nat) (x : Rw) (s : Rd) (d r cs pl : Value) (L : Nat) (W : World) (h : RowAt w0 rows g W n wA wc x s d r cs pl L) (hl : 3 ≤ x.w.length) (hd0 : s.c.dirs ≠ []) (hdl : s.c.dirs.length ≤ 100000) (hrl : ∀ q ∈ s.c.dirs, q.rus.length ≤ 100000) (hpl : s.pl.length ≤ 100000) :
    Calls Tryz.prog 102 #[.pointer (some ⟨g, 0, none⟩), .string sRule, .int .i64 x.a] W (ReadP w0 rows g n (.slice wA x.w.length wc) (readP 4 s x)) := by
  obtain ⟨i0, hi0, hz0, hz1, hz2⟩ := info_parts infoRule
  obtain ⟨cA, cc, hcs⟩ := h.rd.mem.cds.choose_spec.slice
  obtain ⟨cn, hcn⟩ : ∃ k, k = s.cds.length := ⟨_, rfl⟩
  rw [← hcn] at hcs
  subst hcs
  have hn1 := fun W2 (hc : CurAt W2 g 92 (rdV rows (.slice wA x.w.length wc) d r (.slice cA cn cc) pl n 1 0 0 s.c.cap s.c.lim) x.w 1) => next_code g _ _ x.w 1 (wdN x 1) W2 hc (by decide) (wdN_at (by omega))
  have hcW := h.cur
  obtain ⟨pt, hpt⟩ : ∃ p, p = (wdN x 1).t := ⟨_, rfl⟩
  obtain ⟨pp, hpp⟩ : ∃ p, p = (wdN x 2).t := ⟨_, rfl⟩
  have H := Lib.hid (And.intro h (And.intro hpt (And.intro hpp hcn)))
  rw [← hpt] at hn1
  clear h hpt hcn
  show Calls Tryz.prog 102 #[.pointer (some ⟨g, 0, none⟩), .string ⟨#[114, 117, 108, 101]⟩, .int .i64 x.a] W _
  obtain ⟨post, hpost⟩ : ∃ p, p = ReadP w0 rows g n (.slice wA x.w.length wc) (readP 4 s x) := ⟨_, rfl⟩
  rw [← hpost]
  have HP := Lib.hid hpost
  clear hpost
  have hn2 := fun W2 (hc : CurAt W2 g 92 (rdV rows (.slice wA x.w.length wc) d r (.slice cA cn cc) pl n 2 0 0 s.c.cap s.c.lim) x.w 2) => next_code g _ _ x.w 2 (wdN x 2) W2 hc (by decide) (wdN_at (by omega))
  rw [← hpp] at hn2
  clear hpp
  go_enter Tryz.func102, Tryz.ntmps102
  go_wp2_with (fail)
  have hWg : g ≠ W.heap.size := by have := hcW.blk.lt; omega
  have hWl : g < W.heap.size := hcW.blk.lt
  have w10 : W.cell? ⟨g, 10, none⟩ = some (.slice cA cn cc) := hcW.blk.cell' (i := 10) rfl
  apply use_key (S := fun bx V => RuSt W g (rdV rows (.slice wA x.w.length wc) d r (.slice cA cn cc) pl n 3 0 0 s.c.cap s.c.lim) x.w bx pt pp cA cn cc V)
  case h1 =>
    intro key
    go_region_with (first
      | (go_at_call 124; refine (hn1 _ (by first | exact hcW | exact hcW.below (gr_drew (Below.refl _ _)))).mono ?_; rintro e W2 ⟨rfl, hc2, hg2⟩
         have hgW2 : W.grownBy W2 (some g) := (by first | exact hg2 | exact only_trans (only_drew (only_refl _ _)) hg2)
         have hW2 := hgW2.size
         have hWg2 : g ≠ W2.heap.size := (by have := hc2.blk.lt; omega)
         have n10 : W2.cell? ⟨g, 10, none⟩ = some (.slice cA cn cc) := hc2.blk.cell' (i := 10) rfl
         have ngl := hc2.blk.lt)
      | (go_at_call 124; refine (hn1 _ (by first | exact hcW.below (gr_alloc (Below.refl _ _) _) | exact hcW.below (gr_drew (gr_alloc (Below.refl _ _) _)) | exact hcW.below (gr_alloc (gr_drew (Below.refl _ _)) _))).mono ?_; rintro e W2 ⟨rfl, hc2, hg2⟩
         have hgW2 : W.grownBy W2 (some g) := (by first | exact only_trans (only_alloc (only_refl _ _) _) hg2 | exact only_trans (only_drew (only_alloc (only_refl _ _) _)) hg2 | exact only_trans (only_alloc (only_drew (only_refl _ _)) _) hg2)
         have n10 : W2.cell? ⟨g, 10, none⟩ = some (.slice cA cn cc) := hc2.blk.cell' (i := 10) rfl
         have ngl := hc2.blk.lt
         have hbx2 : Blk W2 W.heap.size 66 #[.string ⟨#[]⟩, .bool false, .slice none 0 0, .string ⟨#[]⟩, .bool false, .bool false, .bool false, .bool false, .bool false, .bool false, .bool false, .bool false, .int .i64 0, .int .i64 0] := (by first | exact (Blk.new _ _ _).grown hg2 (by simpa using Ne.symm hWg) | exact (Blk.new _ _ _).drew.grown hg2 (by simpa using Ne.symm hWg) | exact Blk.grown (blk_at rfl) hg2 (by simpa using Ne.symm hWg)))
      | (go_at_call 124; refine (hn2 _ (by first | exact hc2 | exact hc2.below (gr_drew (Below.refl _ _)))).mono ?_; rintro e W3 ⟨rfl, hc3, hg3⟩
         have hgW3 : W.grownBy W3 (some g) := (by first | exact only_trans hgW2 hg3 | exact only_trans (only_drew hgW2) hg3)
         have m10 : W3.cell? ⟨g, 10, none⟩ = some (.slice cA cn cc) := hc3.blk.cell' (i := 10) rfl
         have mgl := hc3.blk.lt
         try (have hbx3 : Blk W3 W.heap.size 66 #[.string ⟨#[]⟩, .bool false, .slice none 0 0, .string ⟨#[]⟩, .bool false, .bool false, .bool false, .bool false, .bool false, .bool false, .bool false, .bool false, .int .i64 0, .int .i64 0] := (by first | exact hbx2.grown hg3 (by simpa using Ne.symm hWg) | exact hbx2.drew.grown hg3 (by simpa using Ne.symm hWg))
              have z0 : W3.cell? ⟨W.heap.size, 0, none⟩ = some (.string ⟨#[]⟩) := hbx3.cell' (i := 0) rfl
              have z1 : W3.cell? ⟨W.heap.size, 1, none⟩ = some (.bool false) := hbx3.cell' (i := 1) rfl
              have z2 : W3.cell? ⟨W.heap.size, 2, none⟩ = some (.slice none 0 0) := hbx3.cell' (i := 2) rfl
              have z3 : W3.cell? ⟨W.heap.size, 3, none⟩ = some (.string ⟨#[]⟩) := hbx3.cell' (i := 3) rfl
              have z4 : W3.cell? ⟨W.heap.size, 4, none⟩ = some (.bool false) := hbx3.cell' (i := 4) rfl
              have z5 : W3.cell? ⟨W.heap.size, 5, none⟩ = some (.bool false) := hbx3.cell' (i := 5) rfl
              have z6 : W3.cell? ⟨W.heap.size, 6, none⟩ = some (.bool false) := hbx3.cell' (i := 6) rfl
              have z7 : W3.cell? ⟨W.heap.size, 7, none⟩ = some (.bool false) := hbx3.cell' (i := 7) rfl
              have z8 : W3.cell? ⟨W.heap.size, 8, none⟩ = some (.bool false) := hbx3.cell' (i := 8) rfl
              have z9 : W3.cell? ⟨W.heap.size, 9, none⟩ = some (.bool false) := hbx3.cell' (i := 9) rfl
              have z10 : W3.cell? ⟨W.heap.size, 10, none⟩ = some (.bool false) := hbx3.cell' (i := 10) rfl
              have z11 : W3.cell? ⟨W.heap.size, 11, none⟩ = some (.bool false) := hbx3.cell' (i := 11) rfl
              have z12 : W3.cell? ⟨W.heap.size, 12, none⟩ = some (.int .i64 0) := hbx3.cell' (i := 12) rfl
              have z13 : W3.cell? ⟨W.heap.size, 13, none⟩ = some (.int .i64 0) := hbx3.cell' (i := 13) rfl
              have f0 := hbx3.frozen 0
              have f1 := hbx3.frozen 1
              have f2 := hbx3.frozen 2
              have f3 := hbx3.frozen 3
              have f4 := hbx3.frozen 4
              have f5 := hbx3.frozen 5
              have f6 := hbx3.frozen 6
              have f7 := hbx3.frozen 7
              have f8 := hbx3.frozen 8
              have f9 := hbx3.frozen 9
              have f10 := hbx3.frozen 10
              have f11 := hbx3.frozen 11
              have f12 := hbx3.frozen 12
              have f13 := hbx3.frozen 13
              have fl := hbx3.lt))
      | (go_at_call 124; refine (hn2 _ (by first | exact hc2.below (gr_alloc (Below.refl _ _) _) | exact hc2.below (gr_drew (gr_alloc (Below.refl _ _) _)) | exact hc2.below (gr_alloc (gr_drew (Below.refl _ _)) _))).mono ?_; rintro e W3 ⟨rfl, hc3, hg3⟩
         have hgW3 : W.grownBy W3 (some g) := (by first | exact only_trans (only_alloc hgW2 _) hg3 | exact only_trans (only_drew (only_alloc hgW2 _)) hg3 | exact only_trans (only_alloc (only_drew hgW2) _) hg3)
         have m10 : W3.cell? ⟨g, 10, none⟩ = some (.slice cA cn cc) := hc3.blk.cell' (i := 10) rfl
         have mgl := hc3.blk.lt
         have hbx3 : Blk W3 W2.heap.size 66 #[.string ⟨#[]⟩, .bool false, .slice none 0 0, .string ⟨#[]⟩, .bool false, .bool false, .bool false, .bool false, .bool false, .bool false, .bool false, .bool false, .int .i64 0, .int .i64 0] := (by first | exact (Blk.new _ _ _).grown hg3 (by simpa using Ne.symm hWg2) | exact (Blk.new _ _ _).drew.grown hg3 (by simpa using Ne.symm hWg2) | exact Blk.grown (blk_at rfl) hg3 (by simpa using Ne.symm hWg2))
         have z0 : W3.cell? ⟨W2.heap.size, 0, none⟩ = some (.string ⟨#[]⟩) := hbx3.cell' (i := 0) rfl
         have z1 : W3.cell? ⟨W2.heap.size, 1, none⟩ = some (.bool false) := hbx3.cell' (i := 1) rfl
         have z2 : W3.cell? ⟨W2.heap.size, 2, none⟩ = some (.slice none 0 0) := hbx3.cell' (i := 2) rfl
         have z3 : W3.cell? ⟨W2.heap.size, 3, none⟩ = some (.string ⟨#[]⟩) := hbx3.cell' (i := 3) rfl
         have z4 : W3.cell? ⟨W2.heap.size, 4, none⟩ = some (.bool false) := hbx3.cell' (i := 4) rfl
         have z5 : W3.cell? ⟨W2.heap.size, 5, none⟩ = some (.bool false) := hbx3.cell' (i := 5) rfl
         have z6 : W3.cell? ⟨W2.heap.size, 6, none⟩ = some (.bool false) := hbx3.cell' (i := 6) rfl
         have z7 : W3.cell? ⟨W2.heap.size, 7, none⟩ = some (.bool false) := hbx3.cell' (i := 7) rfl
         have z8 : W3.cell? ⟨W2.heap.size, 8, none⟩ = some (.bool false) := hbx3.cell' (i := 8) rfl
         have z9 : W3.cell? ⟨W2.heap.size, 9, none⟩ = some (.bool false) := hbx3.cell' (i := 9) rfl
         have z10 : W3.cell? ⟨W2.heap.size, 10, none⟩ = some (.bool false) := hbx3.cell' (i := 10) rfl
         have z11 : W3.cell? ⟨W2.heap.size, 11, none⟩ = some (.bool false) := hbx3.cell' (i := 11) rfl
         have z12 : W3.cell? ⟨W2.heap.size, 12, none⟩ = some (.int .i64 0) := hbx3.cell' (i := 12) rfl
         have z13 : W3.cell? ⟨W2.heap.size, 13, none⟩ = some (.int .i64 0) := hbx3.cell' (i := 13) rfl
         have f0 := hbx3.frozen 0
         have f1 := hbx3.frozen 1
         have f2 := hbx3.frozen 2
         have f3 := hbx3.frozen 3
         have f4 := hbx3.frozen 4
         have f5 := hbx3.frozen 5
         have f6 := hbx3.frozen 6
         have f7 := hbx3.frozen 7
         have f8 := hbx3.frozen 8
         have f9 := hbx3.frozen 9
         have f10 := hbx3.frozen 10
         have f11 := hbx3.frozen 11
         have f12 := hbx3.frozen 12
         have f13 := hbx3.frozen 13
         have fl := hbx3.lt))
    all_goals first
      | (have hq := hbx2; refine gen_at (p := RuSt W g (rdV rows (.slice wA x.w.length wc) d r (.slice cA cn cc) pl n 3 0 0 s.c.cap s.c.lim) x.w W.heap.size pt pp cA cn cc) (RuSt.of_set hc3 hgW3 hbx3 (Nat.le_refl _) hWl) ?_
         obtain ⟨bx, hbx⟩ : ∃ b, b = W.heap.size := ⟨_, rfl⟩
         rw [← hbx]
         intro V hV
         exact key bx V hV)
      | (have hq := hbx3; refine gen_at (p := RuSt W g (rdV rows (.slice wA x.w.length wc) d r (.slice cA cn cc) pl n 3 0 0 s.c.cap s.c.lim) x.w W2.heap.size pt pp cA cn cc) (RuSt.of_set hc3 hgW3 hbx3 (by omega) (by omega)) ?_
         obtain ⟨bx, hbx⟩ : ∃ b, b = W2.heap.size := ⟨_, rfl⟩
         rw [← hbx]
         intro V hV
         exact key bx V hV)
      | (refine gen_at (p := RuSt W g (rdV rows (.slice wA x.w.length wc) d r (.slice cA cn cc) pl n 3 0 0 s.c.cap s.c.lim) x.w W3.heap.size pt pp cA cn cc) (RuSt.of_alloc hc3 hgW3) ?_
         obtain ⟨bx, hbx⟩ : ∃ b, b = W3.heap.size := ⟨_, rfl⟩
         rw [← hbx]
         intro V hV
         exact key bx V hV)
  case h2 =>
    intro bx V hV
    obtain ⟨res, hres⟩ : ∃ q, q = optsP ruleL true (x.w.drop 3) [false] 0 false zeroF := ⟨_, rfl⟩
    have hop := opts_rule W g (rdV rows (.slice wA x.w.length wc) d r (.slice cA cn cc) pl n 3 0 0 s.c.cap s.c.lim) x.w V.heap.size bx pt false (.slice cA cn cc) pp (V.alloc (.cells #[.string sNocase] 9)) hWl (only_alloc hV.gr _) (hV.cur.below (gr_alloc (Below.refl _ _) _)) (Blk.new _ _ _) (hV.box.alloc _) hV.old rfl hl H.out.1.len H.out.1.size
      (fun W' hg' => ⟨(hE.grown H.out.1.rd.bel H.out.1.rd.old hg').tabs, (hE.grown H.out.1.rd.bel H.out.1.rd.old hg').max⟩)
    rw [← hres] at hop
    have hop : Calls Tryz.prog 126 #[.pointer (some ⟨g, 0, none⟩), .slice (some ⟨V.heap.size, 0, none⟩) 1 1, .pointer (some ⟨bx, 4, none⟩)] (V.alloc (.cells #[.string ⟨#[110, 111, 99, 97, 115, 101]⟩] 9)) (OptsP W g 92 (rdV rows (.slice wA x.w.length wc) d r (.slice cA cn cc) pl n 3 0 0 s.c.cap s.c.lim) x.w (V.alloc (.cells #[.string sNocase] 9)).heap.size bx (ruA pt false (.slice cA cn cc) pp) 1 res) := hop
    have hV2 := Lib.hid hV
    have HR := Lib.hid hres
    clear hV hres hn1 hn2 hcW w10
    go_wp2_with (fail)
    refine hop.mono ?_
    rintro e W4 ⟨hm, hgV⟩
    clear hop
    obtain ⟨bs, hbs⟩ : ∃ b, b = (V.alloc (.cells #[.string sNocase] 9)).heap.size := ⟨_, rfl⟩
    rw [← hbs] at hm
    clear hbs
    obtain ⟨v, er, a⟩ := res
    cases v with
    | none =>
      obtain ⟨rfl, u, hb⟩ := hm
      have Y := Lib.hid (And.intro hb hgV)
      clear hb hgV
      go_wp2_with (fail)
      rw [HP.out]
      have hr : readP 4 s x = (none, er, a) := by
        show (match optsP ruleL true (x.w.drop 3) [false] 0 false zeroF with | (some (set, f), _) => _ | (none, e) => _) = _
        rw [← HR.out]
      rw [hr]
      exact ⟨rfl, _, Y.out.1, rfl, rfl, H.out.1.rd.bel' Y.out.2⟩
    | some q =>
      obtain ⟨set, f⟩ := q
      obtain ⟨rfl, hc4, hbs, hsl, hx4⟩ := hm
      have b0 := hbs.cell' (boolA_at (show 0 < set.length by omega))
      have bl := hbs.lt
      obtain ⟨s0, hs0⟩ : ∃ b, b = set.getD 0 false := ⟨_, rfl⟩
      rw [← hs0] at b0
      have k1 : W4.cell? ⟨bx, 1, none⟩ = some (.bool false) := hx4.cell' (i := 1) rfl
      have j1 := hx4.frozen 1
      have jl := hx4.lt
      have k2 : W4.cell? ⟨g, 10, none⟩ = some (.slice cA cn cc) := hc4.blk.cell' (i := 10) rfl
      have j2 := hc4.blk.frozen 10
      have jg := hc4.blk.lt
      have hgb : g ≠ bx := by have := hV2.out.far; omega
      have Y := Lib.hid (And.intro hc4 (And.intro hgV (And.intro hx4 (And.intro hs0 hsl))))
      clear hc4 hgV hx4 hbs hsl hs0
      go_wp2_with (fail)
      have hgV5 : W.grownBy ((W4.setCell ⟨bx, 1, none⟩ (.bool s0)).setCell ⟨g, 10, none⟩ (.slice none 0 0)) (some g) := only_setCell (only_setCell Y.out.2.1 (Or.inr hV2.out.old) _) (Or.inl rfl) _
      have hc5 : Blk ((W4.setCell ⟨bx, 1, none⟩ (.bool s0)).setCell ⟨g, 10, none⟩ (.slice none 0 0)) g 92 (rdV rows (.slice wA x.w.length wc) d r (.slice none 0 0) pl n x.w.length 0 0 s.c.cap s.c.lim) := (Y.out.1.far (p := ⟨bx, 1, none⟩) hV2.out.far _).blk.set_ 10 _
      have hx5 : Blk ((W4.setCell ⟨bx, 1, none⟩ (.bool s0)).setCell ⟨g, 10, none⟩ (.slice none 0 0)) bx 66 (ruA pt s0 (.slice cA cn cc) pp f) := (Y.out.2.2.1.set_ 1 (.bool s0)).far (p := ⟨g, 10, none⟩) (Ne.symm hgb) _
      generalize (W4.setCell ⟨bx, 1, none⟩ (.bool s0)).setCell ⟨g, 10, none⟩ (.slice none 0 0) = Va at hgV5 hc5 hx5 ⊢
      have hdp := List.length_pos_iff.2 hd0
      obtain ⟨gd, dcap, hdv, hgd1, _⟩ := (H.out.1.rd.mem.grown H.out.1.rd.blk reader_not hgV5).dirs.choose_spec.1.form hdp
      subst hdv
      obtain ⟨nd, hnd⟩ : ∃ q, q = s.c.dirs.length := ⟨_, rfl⟩
      obtain ⟨k, hk⟩ : ∃ k, k + 1 = nd := ⟨s.c.dirs.length - 1, by omega⟩
      have v8 : Va.cell? ⟨g, 8, none⟩ = some (.slice (some ⟨gd, 0, none⟩) nd dcap) := by rw [hnd]; exact hc5.cell' (i := 8) rfl
      have vl := hc5.lt
      have hndi : (nd : Int) - 1 = (k : Int) := by omega
      have hndl : (k : Int) < (nd : Int) := by omega
      have hnd1 : nd ≤ 100000 := by omega
      have HD := Lib.hid (And.intro hgd1 (And.intro hdl (And.intro hrl (And.intro hpl (And.intro hnd (And.intro hk (And.intro hgV5 (And.intro hc5 hx5))))))))
      clear hgd1 hdl hrl hpl hnd hk hgV5 hc5 hx5 hd0 hdp b0 bl k1 j1 jl k2 j2 jg
      go_wp2_with (fail)
      go_quiet (fail)
      obtain ⟨hgd1, hdl, hrl, hpl, hnd, hk, hgV5, hc5, hx5⟩ := HD.out
      replace hgV5 := only_drewN hgV5 nq
      replace hc5 := hc5.drewN nq
      replace hx5 := hx5.drewN nq
      clear v8 vl HD
      generalize Va.drewN nq = V5 at hgV5 hc5 hx5 ⊢
      have hmem := H.out.1.rd.mem.grown H.out.1.rd.blk reader_not hgV5
      obtain ⟨us, hU, hEa, hA⟩ := hmem.dirs
      rw [hnd] at hk
      obtain ⟨dr, hdr⟩ : ∃ q, s.c.dirs[k]? = some q := ⟨_, List.getElem?_eq_getElem (by omega)⟩
      obtain ⟨u, hu⟩ : ∃ q, us[k]? = some q := ⟨_, List.getElem?_eq_getElem (by have := hU.1; omega)⟩
      obtain ⟨vs, hR, hRE⟩ := hEa k dr u hdr hu
      obtain ⟨uA, uc, hue⟩ := hR.slice
      subst hue
      have hrl1 := hrl dr (List.mem_of_getElem? hdr)
      have c2 : V5.cell? ⟨gd, k * 3 + 2, none⟩ = some (.slice uA dr.rus.length uc) := hU.cellAt drC_len hdr hu (by decide) rfl
      have hX : Below V5.heap.size V5 (V5.alloc (.cells (ruA pt s0 (.slice cA cn cc) pp f) 66)).drew := gr_drew (gr_alloc (Below.refl _ _) _)
      have hRX := hR.below hX
      have hLV : L ≤ V5.heap.size := Nat.le_trans H.out.1.rd.lw hgV5.size
      have hBV : w0.heap.size ≤ V5.heap.size := (gr_below H.out.1.rd.bel H.out.1.rd.old hgV5).size
      obtain ⟨gg, rcap, W1, hrun, hU1, hgw, hat, hlt⟩ := hRX.append (P := Tryz.prog) ruC_len (by decide) Tryz.underlying46 hi0 hz0 hz1 hz2 rfl (x := ⟨pt, s0, s.cds, pp, f⟩) (u := .slice cA cn cc) (ad := ⟨V5.heap.size, 0, none⟩) (c := 1) (by
          intro j q hj
          rw [Addr.add_lit, Nat.zero_add]
          have hbn : Blk (V5.alloc (.cells (ruA pt s0 (.slice cA cn cc) pp f) 66)).drew V5.heap.size 66 (ruA pt s0 (.slice cA cn cc) pp f) := Blk.new _ _ _
          exact hbn.cell' (by simpa [ruC, ruA] using hj)) (by
          intro q hq
          simp [ruC] at hq
          rcases hq with rfl | rfl | rfl | rfl | rfl | rfl | rfl | rfl | rfl | rfl | rfl | rfl | rfl | rfl <;> rfl) (by omega) (by decide) (by have := hX.size; omega) 46
      have hoth := own_others hRX.2 hgw
      have hg1 : Blk W1 g 92 (rdV rows (.slice wA x.w.length wc) (.slice (some ⟨gd, 0, none⟩) s.c.dirs.length dcap) r (.slice none 0 0) pl n x.w.length 0 0 s.c.cap s.c.lim) := hoth _ _ _ (hc5.call hX) (by decide)
      have hU2 : OwnU 48 3 drC W1 w0.heap.size (.slice (some ⟨gd, 0, none⟩) s.c.dirs.length dcap) s.c.dirs us := (hU.below hX).keep fun q c _ hb => hoth q _ c hb (by decide)
      have e2 : W1.cell? ⟨gd, k * 3 + 2, none⟩ = some (.slice uA dr.rus.length uc) := hU2.cellAt drC_len hdr hu (by decide) rfl
      have e3 := hU2.frozen (k * 3 + 2)
      have e4 := (hU2.block (k := gd) rfl).2
      have hcsd : s.cds = s.cds := rfl
      have hpu := RdMem.pushRule (s' := ⟨{ s.c with dirs := addRu s.c.dirs ⟨pt, s0, s.cds, pp, f⟩ }, [], s.pl⟩) hmem hX hU hEa hA hLV hk hdr hu hR hRE (x := ⟨pt, s0, s.cds, pp, f⟩) rfl hU1 hgw hat (by have := hX.size; omega) rfl rfl rfl rfl
      obtain ⟨rn, hrn⟩ : ∃ k, k = dr.rus.length := ⟨_, rfl⟩
      obtain ⟨V6, hV6⟩ : ∃ V, V = W1.setCell ⟨gd, k * 3 + 2, none⟩ (.slice (some ⟨gg, 0, none⟩) (dr.rus.length + 1) rcap) := ⟨_, rfl⟩
      obtain ⟨curd, hgdb⟩ : ∃ c, Blk W1 gd 48 c := by
        rcases hU2.2.2 with ⟨e, _⟩ | ⟨g', cap', cur, e, _, hh, _⟩
        · cases e
        · cases e; exact ⟨cur, hh⟩
      have hgd : g ≠ gd := hg1.ne_ hgdb (by decide)
      have hg6 : Blk V6 g 92 (rdV rows (.slice wA x.w.length wc) (.slice (some ⟨gd, 0, none⟩) s.c.dirs.length dcap) r (.slice none 0 0) pl n x.w.length 0 0 s.c.cap s.c.lim) := by rw [hV6]; exact hg1.far (p := ⟨gd, k * 3 + 2, none⟩) hgd _
      rw [← hV6] at hpu
      have hB6 : Below w0.heap.size w0 V6 := by
        have h0 := gr_below H.out.1.rd.bel H.out.1.rd.old hgV5
        have h1 : Below w0.heap.size w0 W1 := (h0.trans (hX.mono h0.size)).grown hgw (Nat.le_trans h0.size hX.size) (fun k hk => (hR.block hk).1)
        rw [hV6]
        exact h1.setCell (by show w0.heap.size ≤ gd; exact hgd1) _
      obtain ⟨pA, pc, hpe⟩ := own_slice hpu.pl
      subst hpe
      obtain ⟨iI, hj0, hj1, hj2, hj3⟩ := info_parts infoInt
      have hX6 : Below V6.heap.size V6 (V6.alloc (.cells #[.int .i64 x.a] 3)) := gr_alloc (Below.refl _ _) _
      have hplX := own_below hpu.pl hX6 (Nat.le_refl _)
      obtain ⟨gp, pcap, W8, hrun2, hown8, hgw8, _, hlt8⟩ := run_append_lies (P := Tryz.prog) (V6.alloc (.cells #[.int .i64 x.a] 3)) 22 22 w0.heap.size 3 iI _ 1 8 Tryz.underlying22 hj0 hj1 hj2 hj3 rfl (by decide) (.slice pA s.pl.length pc) s.pl.length _ hplX ⟨V6.heap.size, 0, none⟩ 1 1 [.int .i64 x.a] rfl (by
          intro j q hj
          rw [Addr.add_lit, Nat.zero_add]
          have hbn : Blk (V6.alloc (.cells #[.int .i64 x.a] 3)) V6.heap.size 3 #[.int .i64 x.a] := Blk.new _ _ _
          exact hbn.cell' (by simpa using hj)) (by
          intro q hq
          simp at hq
          subst hq
          rfl) (by decide) (by unfold maxLen; omega) (by omega) (Nat.le_trans hB6.size hX6.size) _ rfl
      have hoth8 := own_others hplX hgw8
      have hg8 : Blk W8 g 92 (rdV rows (.slice wA x.w.length wc) (.slice (some ⟨gd, 0, none⟩) s.c.dirs.length dcap) r (.slice none 0 0) (.slice pA s.pl.length pc) n x.w.length 0 0 s.c.cap s.c.lim) := hoth8 _ _ _ (hg6.call hX6) (by decide)
      have hpu8 := hpu.pushPl (s' := ⟨{ s.c with dirs := addRu s.c.dirs ⟨pt, s0, s.cds, pp, f⟩ }, [], s.pl ++ [x.a]⟩) hX6 (by unfold IntMem; rw [List.length_append, List.length_singleton, List.map_append]; exact hown8) hgw8 rfl rfl rfl rfl
      have hB8 : Below w0.heap.size w0 W8 := (hB6.trans (hX6.mono hB6.size)).grown hgw8 (Nat.le_trans hB6.size hX6.size) (fun k hk => (hplX.lt k hk).1)
      obtain ⟨pn, hpn⟩ : ∃ q, q = s.pl.length := ⟨_, rfl⟩
      have vl := hc5.lt
      have xl := hx5.lt
      have gdl := (hU.block (k := gd) rfl).2
      have x0 : V5.cell? ⟨bx, 0, none⟩ = some (.string pt) := hx5.cell' (i := 0) rfl
      have x1 : V5.cell? ⟨bx, 1, none⟩ = some (.bool s0) := hx5.cell' (i := 1) rfl
      have x2 : V5.cell? ⟨bx, 2, none⟩ = some (.slice cA cn cc) := hx5.cell' (i := 2) rfl
      have x3 : V5.cell? ⟨bx, 3, none⟩ = some (.string pp) := hx5.cell' (i := 3) rfl
      have x4 : V5.cell? ⟨bx, 4, none⟩ = some (.bool f.last) := hx5.cell' (i := 4) rfl
      have x5 : V5.cell? ⟨bx, 5, none⟩ = some (.bool f.next) := hx5.cell' (i := 5) rfl
      have x6 : V5.cell? ⟨bx, 6, none⟩ = some (.bool f.chain) := hx5.cell' (i := 6) rfl
      have x7 : V5.cell? ⟨bx, 7, none⟩ = some (.bool f.fin) := hx5.cell' (i := 7) rfl
      have x8 : V5.cell? ⟨bx, 8, none⟩ = some (.bool f.forb) := hx5.cell' (i := 8) rfl
      have x9 : V5.cell? ⟨bx, 9, none⟩ = some (.bool f.gone) := hx5.cell' (i := 9) rfl
      have x10 : V5.cell? ⟨bx, 10, none⟩ = some (.bool f.app) := hx5.cell' (i := 10) rfl
      have x11 : V5.cell? ⟨bx, 11, none⟩ = some (.bool f.disc) := hx5.cell' (i := 11) rfl
      have x12 : V5.cell? ⟨bx, 12, none⟩ = some (.int .i64 f.skip) := hx5.cell' (i := 12) rfl
      have x13 : V5.cell? ⟨bx, 13, none⟩ = some (.int .i64 f.red) := hx5.cell' (i := 13) rfl
      have y11 : V6.cell? ⟨g, 11, none⟩ = some (.slice pA pn pc) := by rw [hpn]; exact hg6.cell' (i := 11) rfl
      have yl := hg6.lt
      have z11 : W8.cell? ⟨g, 11, none⟩ = some (.slice pA pn pc) := by rw [hpn]; exact hg8.cell' (i := 11) rfl
      have z11f := hg8.frozen 11
      have zl := hg8.lt
      rw [← hrn] at c2 e2 hrun hV6
      have hrun : (Builtin.append_ #[46, 46] 46 #[.slice uA rn uc, .slice (some ⟨V5.heap.size, 0, none⟩) 1 1]).run Tryz.prog (V5.alloc (.cells #[.string pt, .bool s0, .slice cA cn cc, .string pp, .bool f.last, .bool f.next, .bool f.chain, .bool f.fin, .bool f.forb, .bool f.gone, .bool f.app, .bool f.disc, .int .i64 f.skip, .int .i64 f.red] 66)).drew = .ok (.slice (some ⟨gg, 0, none⟩) (rn + 1) rcap) W1 := hrun
      rw [← hpn] at hrun2
      have hV6w : V6.heap.size = V6.heap.size := rfl
      have Z := Lib.hid (And.intro hpu8 (And.intro hB8 (And.intro hg8 (And.intro hgV5 (And.intro hX (And.intro hgw (And.intro hX6 (And.intro hgw8 (And.intro hV6 (And.intro hpn hnd))))))))))
      clear hV6 hk hndi hndl hnd1 hpu8 hB8 hg8 hgV5 hX hgw hX6 hgw8 hpn hnd hpu hB6 hplX hoth8 hown8 hg6 hgd hoth hg1 hU2 hcsd hrn hRX hRE hR hU hEa hA hmem hU1 hat hlt hlt8 hc5 hx5 hdr hu hLV hBV hgd1 hrl1 hgdb hV6w hdl hrl hpl
      go_wp2_with (fail)
      go_region
      all_goals
        rw [← Z.out.2.2.2.2.2.2.2.2.1]
        clear hrun c2 e2 e3 e4 gdl x0 x1 x2 x3 x4 x5 x6 x7 x8 x9 x10 x11 x12 x13 xl vl
        go_wp2_with (fail)
        rw [HP.out]
        have hr : readP 4 s x = (some ⟨{ s.c with dirs := addRu s.c.dirs ⟨pt, s0, s.cds, pp, f⟩ }, [], s.pl ++ [x.a]⟩, 0, 0) := by
          show (match optsP ruleL true (x.w.drop 3) [false] 0 false zeroF with | (some (set, f), _) => _ | (none, e) => _) = _
          rw [← HR.out, Y.out.2.2.2.1, H.out.2.1, H.out.2.2.1]
        rw [hr]
        obtain ⟨hpu8, hB8, hg8, hgV5, hX, hgw, hX6, hgw8, hV6, hpn, hnd⟩ := Z.out
        have hgs : W8.grownBy (W8.setCell ⟨g, 11, none⟩ (.slice (some ⟨gp, 0, none⟩) (pn + 1) pcap)) (some g) := only_setCell (only_refl _ _) (Or.inl rfl) _
        have hpu9 := hpu8.grown hg8 reader_not hgs
        refine ⟨rfl, x.w.length, _, _, _, _, V5.heap.size, ⟨hg8.set_ 11 _, ?_, hB8.setCell H.out.1.rd.old _, H.out.1.rd.old, ?_⟩⟩
        · rw [← hpn] at hpu9
          exact hpu9
        · have h1 := hX.size
          have h2 := hgw.size
          have h3 : V6.heap.size = W1.heap.size := by rw [hV6]; simp [World.setCell]
          have h4 := hX6.size
          have h5 := hgw8.size
          have h6 := hgs.size
          omega
end Go.Proofs.YthpcbaamkeiffaaGreatDoor
