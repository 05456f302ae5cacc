/-
  PassKnown, walked: it returns true; condition: the two tables lie as they are laid.
-/
import Derived.Test.YtjkmkpehnnkpiaaDoorPasEn
import Derived.Deep.CutRange
namespace Go.Proofs.YtjkmkpehnnkpiaaDoor
open Go.RowKit Go.Joins Go.Shelf
set_option linter.unusedVariables false
set_option linter.unusedSimpArgs false

set_option maxRecDepth 100000 in
set_option maxHeartbeats 2000000 in
theorem ksameBools (G K : Nat → Bool) (n c d : Nat) (A B : Option Addr) (hn : n ≤ 1000000) (hGK : ∀ k, k < n → G k = K k) (w : World) (hA : Cells w A 1 n (boolAt G)) (hB : Cells w B 1 n (boolAt K)) :
    Calls Tryd.prog 36 #[.slice A n c, .slice B n d] w fun e W' => e = .returned (.bool true) ∧ Below w.heap.size w W' := by
  have H := Lib.hid (And.intro hA (And.intro hB hGK))
  clear hA hB hGK
  go_enter Tryd.func36, Tryd.ntmps36
  go_wp2_with (fail)
  go_loopw [5] (fun i wr => LoopRel n w i wr) (fun i _ => n - (intOf i).toNat)
  case atStart => exact ⟨Below.refl _ _, 0, Nat.zero_le _, rfl⟩
  case round =>
    obtain ⟨hb, k, hk, rfl⟩ := hrel
    have HB := Lib.hid hb
    clear hb
    by_cases hlt : k < n
    · obtain ⟨ab, ao, rfl, al, c0⟩ := cell_bool (H.out.1.below HB.out) hlt
      obtain ⟨bb, bo, rfl, bl, d0⟩ := cell_bool (H.out.2.1.below HB.out) hlt
      rw [← H.out.2.2 k hlt] at d0
      generalize G k = x at c0 d0
      have hxx : (x != x) = false := by simp
      have hz6 : (k : Int) < (n : Int) := by omega
      go_wp2_with (fail)
      go_quiet (fail)
      go_wp2_with (fail)
      exact ⟨⟨below_drewN HB.out _, k + 1, by omega, by go_num⟩, by simp [intOf]; omega⟩
    · obtain rfl : k = n := by omega
      go_wp2_with (fail)
      go_ret
      exact ⟨rfl, HB.out⟩

def GN : Nat → Bool := fun _ => false
def G05 : Nat → Bool := fun i => ([true, false, false, false, false, true] : List Bool).getD i false
def GT : Nat → Bool := fun i => ([true, true, false, true, true, true] : List Bool).getD i false
theorem sqN : sqL Fr 6 GN 4 = [0, 3, 4, 5] ∧ (6 ≤ sq Fr 6 GN 4) ∧ (∀ j, j < 4 → sq Fr 6 GN j < 6) ∧ enN Fr 6 (ansF GN 10) 0 false 4 = false := by decide +kernel
theorem sq05 : ∀ j, j < 101 → sq Fr 6 G05 j < 6 := by decide +kernel
theorem tr05 : ∀ k, k < 6 → inL (sqL Fr 6 G05 12) k = GT k := by decide +kernel
theorem fix_n {L : List Nat} {en : Bool} {er : Int} (h : FixP Fr 6 GN 10 L en er) : L = [0, 3, 4, 5] ∧ en = false ∧ er = 0 := by
  rcases h with ⟨rfl, i, hi, ho, rfl, rfl⟩ | ⟨_, _, h⟩
  · have : i = 4 := over_unique ho ⟨sqN.2.1, sqN.2.2.1⟩
    subst this
    exact ⟨sqN.1, sqN.2.2.2, rfl⟩
  · have := h 4 (by decide); have := sqN.2.1; omega
theorem fix_05 {L : List Nat} {en : Bool} {er : Int} (h : FixP Fr 6 G05 100 L en er) : er = 13 := by
  rcases h with ⟨rfl, i, hi, ho, rfl, rfl⟩ | ⟨h, _⟩
  · have := sq05 i (by omega); have := ho.1; omega
  · exact h
theorem stop_05 {i : Nat} (h1 : i ≤ 12) (h2 : Halt Fr 6 (ansF G05 12) 0 i) (h3 : Good Fr 6 (ansF G05 12) 0 i) : i = 12 := by
  rcases (fixed_stop h1 h2 h3).2 with h | ⟨h, _⟩
  · have := sq05 i (by omega); have := h.1; omega
  · exact h
theorem cells_six {W : World} {D : Nat} {a b c d e f : Bool} (h : Blk W D 4 #[.bool a, .bool b, .bool c, .bool d, .bool e, .bool f]) {G : Nat → Bool} (hG : G 0 = a ∧ G 1 = b ∧ G 2 = c ∧ G 3 = d ∧ G 4 = e ∧ G 5 = f) : Cells W (some ⟨D, 0, none⟩) 1 6 (boolAt G) := by
  intro _
  refine ⟨D, 0, rfl, h.lt, fun i j hi hj => ?_⟩
  obtain rfl : j = 0 := by omega
  obtain ⟨rfl, rfl, rfl, rfl, rfl, rfl⟩ := hG
  have hi' : i = 0 ∨ i = 1 ∨ i = 2 ∨ i = 3 ∨ i = 4 ∨ i = 5 := by omega
  rcases hi' with rfl | rfl | rfl | rfl | rfl | rfl <;> exact h.cell' rfl
def FE : Nat → Flg := fun _ => { (default : Flg) with fin := true }
def FZ : Nat → Flg := fun _ => default
theorem FE_ok : SkipOk FE := fun i => by show _ ≤ (0 : Int) ∧ (0 : Int) ≤ _; decide
theorem FZ_ok : SkipOk FZ := fun i => by show _ ≤ (0 : Int) ∧ (0 : Int) ≤ _; decide
theorem flagsZ : flagsE FZ 65 = 5 := by decide +kernel
theorem flagsFE : flagsE FE 1 = 0 := by decide +kernel
theorem nextFE : nextE FE 1 0 false = 0 ∧ nxN FE 1 0 false = 1 ∧ nxT FE 1 0 false true = 1 ∧ nxE FE 1 0 false true = true := by decide +kernel
theorem madeAt (zc : Array Value) (n t : Nat) (hz : zc.size = 10) (ht : t < n) : (madeCells zc n)[t]? = zc[t % 10]? := by
  have h2 : t % 10 < zc.size := by rw [hz]; exact Nat.mod_lt _ (by decide)
  unfold madeCells
  rw [Array.getElem?_map, Array.getElem?_range, if_pos ht, Option.map_some, hz, getElem!_pos zc (t % 10) h2, Array.getElem?_eq_getElem h2]
theorem cells_made {W : World} {D n : Nat} (h : Blk W D 54 (madeCells #[Value.bool (FZ 0).last, .bool (FZ 0).next, .bool (FZ 0).chain, .bool (FZ 0).fin, .bool (FZ 0).forb, .bool (FZ 0).gone, .bool (FZ 0).app, .bool (FZ 0).disc, .int .i64 (FZ 0).skip, .int .i64 (FZ 0).red] (n * 10))) : Cells W (some ⟨D, 0, none⟩) 10 n (flgAt FZ) := by
  intro _
  refine ⟨D, 0, rfl, h.lt, fun i j hi hj => ?_⟩
  rw [Nat.zero_add, h.cell, madeAt _ _ _ rfl (row_lt hi hj), Nat.mul_comm, Nat.mul_add_mod, Nat.mod_eq_of_lt hj]
  have hj' : j = 0 ∨ j = 1 ∨ j = 2 ∨ j = 3 ∨ j = 4 ∨ j = 5 ∨ j = 6 ∨ j = 7 ∨ j = 8 ∨ j = 9 := by omega
  rcases hj' with rfl | rfl | rfl | rfl | rfl | rfl | rfl | rfl | rfl | rfl <;> rfl

set_option maxRecDepth 100000 in
set_option maxHeartbeats 8000000 in
theorem law_known (w : World) (hT : Tabs w) : Calls Tryd.prog 9 #[] w fun e W' => e = .returned (.bool true) ∧ Below w.heap.size w W' := by
  have HT := Lib.hid hT
  clear hT
  have af : ∀ (r : Int) (h : Bool) (want : Int) (hr : -9223372036854775808 ≤ r ∧ r ≤ 9223372036854775807) (h1 : afterV Fr 6 r h = want) (h2 : afterE Fr 6 r = 0) (W : World), Below w.heap.size w W → Calls Tryd.prog 39 #[.int .i64 r, .bool h, .int .i64 want] W fun e W' => e = .returned (.bool true) ∧ Below w.heap.size w W' :=
    fun r h want hr h1 h2 W hW => (lafter r h want hr h1 h2 W (HT.out.below hW (Nat.le_refl _))).mono fun e W' ⟨he, hb⟩ => ⟨he, gr_call hW hb⟩
  have HAF := Lib.hid af
  clear af
  go_enter Tryd.func9, Tryd.ntmps9
  go_wp2_with (fail)
  refine (HAF.out 1 false 3 (by decide) (by decide +kernel) (by decide +kernel) _ (Below.refl _ _)).mono ?_
  rintro e W1 ⟨rfl, b1⟩
  have B1 := Lib.hid b1
  clear b1
  go_wp2_with (fail)
  refine (HAF.out 2 false 3 (by decide) (by decide +kernel) (by decide +kernel) _ B1.out).mono ?_
  rintro e W2 ⟨rfl, b2⟩
  have B2 := Lib.hid b2
  clear b2
  go_wp2_with (fail)
  refine (HAF.out 3 true 5 (by decide) (by decide +kernel) (by decide +kernel) _ B2.out).mono ?_
  rintro e W3 ⟨rfl, b3⟩
  have B3 := Lib.hid b3
  clear b3
  go_wp2_with (fail)
  refine (HAF.out 3 false 4 (by decide) (by decide +kernel) (by decide +kernel) _ B3.out).mono ?_
  rintro e W4 ⟨rfl, b4⟩
  have B4 := Lib.hid b4
  clear b4
  go_wp2_with (fail)
  refine (HAF.out 0 true 1 (by decide) (by decide +kernel) (by decide +kernel) _ B4.out).mono ?_
  rintro e W5 ⟨rfl, b5⟩
  have B5 := Lib.hid b5
  clear b5
  go_wp2_with (fail)
  refine (HAF.out 4 true 6 (by decide) (by decide +kernel) (by decide +kernel) _ B5.out).mono ?_
  rintro e W6 ⟨rfl, b6⟩
  have B6 := Lib.hid b6
  clear b6
  go_wp2_with (fail)
  refine (HAF.out 4 false 5 (by decide) (by decide +kernel) (by decide +kernel) _ B6.out).mono ?_
  rintro e W7 ⟨rfl, b7⟩
  have B7 := Lib.hid b7
  clear b7
  go_wp2_with (fail)
  refine (HAF.out 5 true 0 (by decide) (by decide +kernel) (by decide +kernel) _ B7.out).mono ?_
  rintro e W8 ⟨rfl, b8⟩
  have B8 := Lib.hid b8
  clear b8
  go_wp2_with (fail)
  refine (HAF.out 5 false 6 (by decide) (by decide +kernel) (by decide +kernel) _ B8.out).mono ?_
  rintro e W9 ⟨rfl, b9⟩
  have B9 := Lib.hid b9
  clear b9 B1 B2 B3 B4 B5 B6 B7 B8 HAF
  have hmk : ∀ W, (Instr.makeSlice 31 (.int .i64 6) (.int .i64 6)).run Tryd.prog W = .ok (.slice (some ⟨W.heap.size, 0, none⟩) 6 6) (W.alloc (.cells #[.bool false, .bool false, .bool false, .bool false, .bool false, .bool false] 4)) := fun _ => by kernel_rfl
  have fxn : ∀ (B : Option Addr) (C : Nat) (W : World), Below w.heap.size w W → Cells W B 10 6 (flgAt Fr) → Cells W (some ⟨C, 0, none⟩) 1 6 (boolAt GN) → Calls Tryd.prog 33 #[.slice B 6 6, .slice (some ⟨C, 0, none⟩) 6 6, .int .i64 10] W fun e W' => ∃ v, e = .returned (.tuple #[v, .bool false, .int .i64 0]) ∧ IntsV [0, 3, 4, 5] v W' ∧ Below w.heap.size w W' :=
    fun B C W hW h1 h2 => by
      refine (pFixed Fr Fr_ok B (some ⟨C, 0, none⟩) 6 6 6 10 GN (by decide) (by decide) W (HT.out.below hW (Nat.le_refl _)) (show ArgOk B 6 6 from fun e => by subst e; obtain ⟨_, _, e, _⟩ := h1 (by decide); cases e) h1 h2 flags6).mono ?_
      rintro e W' ⟨v, en, er, L, rfl, p1, p2, p3, p4⟩
      obtain ⟨rfl, rfl, rfl⟩ := fix_n p1
      exact ⟨v, rfl, p3, gr_call hW p4⟩
  have FXN := Lib.hid fxn
  clear fxn
  go_upto_region 3 with (fail)
  go_cut [1, 2, 3] from 44 to 50 (fun v1 v2 v3 wx => v2 = .bool false ∧ v3 = .int .i64 0 ∧ IntsV [0, 3, 4, 5] v1 wx ∧ Below w.heap.size w wx)
  case first =>
    go_region_with (first
      | (go_at_call 40; refine (lrules _).mono ?_; rintro e X1 ⟨rfl, k1, k2⟩)
      | (go_at_call 33; refine (FXN.out _ _ _ (by first | exact gr_alloc (gr_call (gr_drew B9.out) k2) _ | exact gr_call (gr_drew (gr_alloc B9.out _)) k2) (by first | exact k1.below (gr_alloc (Below.refl _ _) _) | (simp at k1; exact k1)) (by first | exact cells_six (Blk.new _ _ _) ⟨rfl, rfl, rfl, rfl, rfl, rfl⟩ | exact cells_six (Blk.call (Blk.drew (Blk.new W9 4 #[.bool false, .bool false, .bool false, .bool false, .bool false, .bool false])) k2) ⟨rfl, rfl, rfl, rfl, rfl, rfl⟩)).mono ?_; rintro e X2 ⟨v, rfl, p2, p3⟩))
    all_goals
      have HX := Lib.hid (And.intro p2 p3)
      clear p2 p3 k1 k2
      go_wp2_with (fail)
      go_meet
      exact ⟨rfl, rfl, HX.out.1, HX.out.2⟩
  case rest =>
  obtain ⟨rfl, rfl, ⟨A1, c1, rfl, i1, _⟩, hz⟩ := hcut
  have i1 : Cells wc A1 1 ([0, 3, 4, 5] : List Int).length (intsAt [0, 3, 4, 5]) := i1
  have H1 := Lib.hid (And.intro hz i1)
  clear hz i1 FXN B9 hmk
  go_wp2_with (fail)
  refine (lrules _).mono ?_
  rintro e W1 ⟨rfl, k1, k2⟩
  have z2 := gr_alloc (gr_call H1.out.1 k2) (.cells #[.bool true, .bool false, .bool false, .bool false, .bool false, .bool true] 4)
  have g2 := cells_six (G := G05) (Blk.new W1 4 #[.bool true, .bool false, .bool false, .bool false, .bool false, .bool true]) ⟨rfl, rfl, rfl, rfl, rfl, rfl⟩
  have H2 := Lib.hid (And.intro z2 (And.intro g2 (And.intro (k1.below (gr_alloc (Below.refl _ _) (.cells #[.bool true, .bool false, .bool false, .bool false, .bool false, .bool true] 4))) ((H1.out.2.below k2).below (gr_alloc (Below.refl _ _) (.cells #[.bool true, .bool false, .bool false, .bool false, .bool false, .bool true] 4))))))
  clear z2 g2 k1 k2 H1
  go_wp2_with (fail)
  refine (pFixed Fr Fr_ok _ _ 6 6 6 100 G05 (by decide) (by decide) _ (HT.out.below H2.out.1 (Nat.le_refl _)) (show ArgOk _ _ _ from fun h => by cases h) H2.out.2.2.1 H2.out.2.1 flags6).mono ?_
  rintro e W2 ⟨v, en, er, L, rfl, p1, p2, ⟨A2, c2, rfl, _, _⟩, p4⟩
  obtain rfl := fix_05 p1
  have H3 := Lib.hid (And.intro (gr_call H2.out.1 p4) (H2.out.2.2.2.below p4))
  clear p1 p2 p4 H2
  go_wp2_with (fail)
  refine (lrules _).mono ?_
  rintro e W3 ⟨rfl, k1, k2⟩
  have z2 := gr_alloc (gr_call H3.out.1 k2) (.cells #[.bool true, .bool false, .bool false, .bool false, .bool false, .bool true] 4)
  have g2 := cells_six (G := G05) (Blk.new W3 4 #[.bool true, .bool false, .bool false, .bool false, .bool false, .bool true]) ⟨rfl, rfl, rfl, rfl, rfl, rfl⟩
  have H4 := Lib.hid (And.intro z2 (And.intro g2 (And.intro (k1.below (gr_alloc (Below.refl _ _) (.cells #[.bool true, .bool false, .bool false, .bool false, .bool false, .bool true] 4))) ((H3.out.2.below k2).below (gr_alloc (Below.refl _ _) (.cells #[.bool true, .bool false, .bool false, .bool false, .bool false, .bool true] 4))))))
  clear z2 g2 k1 k2 H3
  go_wp2_with (fail)
  refine (ptried Fr Fr_ok _ _ 6 6 6 G05 (by decide) _ (HT.out.below H4.out.1 (Nat.le_refl _)) (show ArgOk _ _ _ from fun h => by cases h) H4.out.2.2.1 H4.out.2.1 flags6).mono ?_
  rintro e W4 ⟨D, i, rfl, r1, r2, r3, r4, r5⟩
  rw [tried_sq r1] at r4
  obtain rfl := stop_05 r1 r2 r3
  have z5 := gr_alloc (gr_call H4.out.1 r5) (.cells #[.int .i64 0, .int .i64 3, .int .i64 4, .int .i64 5] 3)
  have al : Below W4.heap.size W4 (W4.alloc (.cells #[.int .i64 0, .int .i64 3, .int .i64 4, .int .i64 5] 3)) := gr_alloc (Below.refl _ _) _
  have h7 := Blk.new W4 3 #[.int .i64 0, .int .i64 3, .int .i64 4, .int .i64 5]
  have hc7 : Cells (W4.alloc (.cells #[.int .i64 0, .int .i64 3, .int .i64 4, .int .i64 5] 3)) (some ⟨W4.heap.size, 0, none⟩) 1 ([0, 3, 4, 5] : List Int).length (intsAt [0, 3, 4, 5]) := by
    intro _
    refine ⟨_, _, rfl, by simp, fun i j hi hj => ?_⟩
    have hi' : i = 0 ∨ i = 1 ∨ i = 2 ∨ i = 3 := by simp at hi; omega
    obtain rfl : j = 0 := by omega
    rcases hi' with rfl | rfl | rfl | rfl <;> exact h7.cell' rfl
  have H5 := Lib.hid (And.intro z5 (And.intro hc7 (And.intro ((H4.out.2.2.2.below r5).below al) (r4.below al))))
  clear z5 al h7 hc7 r1 r2 r3 r4 r5 H4
  go_wp2_with (fail)
  refine (sameInts [0, 3, 4, 5] [0, 3, 4, 5] _ _ c1 4 (by decide) (by decide) _ H5.out.2.2.1 H5.out.2.1).mono ?_
  rintro e W5 ⟨rfl, h5⟩
  rw [decide_eq_true rfl]
  have z6 := gr_alloc (gr_call H5.out.1 h5) (.cells #[.bool true, .bool true, .bool false, .bool true, .bool true, .bool true] 4)
  have al : Below W5.heap.size W5 (W5.alloc (.cells #[.bool true, .bool true, .bool false, .bool true, .bool true, .bool true] 4)) := gr_alloc (Below.refl _ _) _
  have g6 := cells_six (G := GT) (Blk.new W5 4 #[.bool true, .bool true, .bool false, .bool true, .bool true, .bool true]) ⟨rfl, rfl, rfl, rfl, rfl, rfl⟩
  have H6 := Lib.hid (And.intro z6 (And.intro g6 ((H5.out.2.2.2.below h5).below al)))
  clear z6 al g6 h5 H5
  go_wp2_with (fail)
  refine (ksameBools (inL (sqL Fr 6 G05 12)) GT 6 6 6 _ _ (by decide) tr05 _ H6.out.2.2 H6.out.2.1).mono ?_
  rintro e W6 ⟨rfl, h6⟩
  have H7 := Lib.hid (gr_call H6.out.1 h6)
  clear h6 H6
  go_wp2_with (fail)
  have z8 := gr_alloc H7.out (.cells #[.bool false, .bool false, .bool false, .bool true, .bool false, .bool false, .bool false, .bool false, .int .i64 0, .int .i64 0] 54)
  have b8 := Blk.new W6 54 #[.bool false, .bool false, .bool false, .bool true, .bool false, .bool false, .bool false, .bool false, .int .i64 0, .int .i64 0]
  have c8 : Cells (W6.alloc (.cells #[.bool false, .bool false, .bool false, .bool true, .bool false, .bool false, .bool false, .bool false, .int .i64 0, .int .i64 0] 54)) (some ⟨W6.heap.size, 0, none⟩) 10 1 (flgAt FE) := by
    intro _
    refine ⟨_, _, rfl, b8.lt, fun i j hi hj => ?_⟩
    obtain rfl : i = 0 := by omega
    rw [show 0 + 0 * 10 + j = j by omega]
    have hj' : j = 0 ∨ j = 1 ∨ j = 2 ∨ j = 3 ∨ j = 4 ∨ j = 5 ∨ j = 6 ∨ j = 7 ∨ j = 8 ∨ j = 9 := by omega
    rcases hj' with rfl | rfl | rfl | rfl | rfl | rfl | rfl | rfl | rfl | rfl <;> exact b8.cell' rfl
  have H8 := Lib.hid (And.intro z8 c8)
  clear z8 b8 c8 H7
  refine (pstart FE FE_ok _ 1 1 (by decide) _ (HT.out.below H8.out.1 (Nat.le_refl _)) (show ArgOk _ _ _ from fun h => by cases h) H8.out.2).mono ?_
  rintro e W7 ⟨B7, d7, rfl, k1, k2, k3, k4⟩
  have hs7 : startN FE 1 = 1 := by unfold startN; rw [if_pos flagsFE]
  rw [hs7] at k1 k2 ⊢
  rw [flagsFE]
  clear hs7
  have z9 := gr_alloc (gr_call H8.out.1 k3) (.cells #[.slice B7 1 d7, .int .i64 0, .bool false] 30)
  have b9 := Blk.new W7 30 #[.slice B7 1 d7, .int .i64 0, .bool false]
  have c9 := k1.below (gr_alloc (Below.refl _ _) (.cells #[.slice B7 1 d7, .int .i64 0, .bool false] 30))
  have s9 := (gr_call H8.out.1 k3).size
  have u0 := b9.cell' (i := 0) rfl
  have u1 := b9.cell' (i := 1) rfl
  have u2 := b9.cell' (i := 2) rfl
  have ul := b9.lt
  have H9 := Lib.hid (And.intro z9 (And.intro b9 (And.intro c9 k2)))
  clear z9 b9 c9 k1 k2 k3 k4 H8
  go_wp2_with (fail)
  refine (pnextU FE FE_ok B7 1 d7 0 false true (by decide) (by decide) _ (HT.out.below H9.out.1 (Nat.le_refl _)) H9.out.2.2.2 H9.out.2.2.1).mono ?_
  rintro e W8 ⟨v8, rfl, ⟨B8, d8, rfl, p8, _⟩, h8⟩
  rw [nextFE.1, nextFE.2.1, nextFE.2.2.1, nextFE.2.2.2]
  have b10 := H9.out.2.1.call h8
  have f0 := b10.frozen 0
  have f1 := b10.frozen 1
  have f2 := b10.frozen 2
  have u0 := b10.cell' (i := 0) rfl
  have u1 := b10.cell' (i := 1) rfl
  have u2 := b10.cell' (i := 2) rfl
  have ul := b10.lt
  have z10 := gr_set (gr_set (gr_set (gr_call H9.out.1 h8) (p := ⟨W7.heap.size, 0, none⟩) s9 (.slice B8 1 d8)) (p := ⟨W7.heap.size, 1, none⟩) s9 (.int .i64 1)) (p := ⟨W7.heap.size, 2, none⟩) s9 (.bool true)
  have b11 := ((b10.set_ 0 (.slice B8 1 d8)).set_ 1 (.int .i64 1)).set_ 2 (.bool true)
  have H10 := Lib.hid (And.intro z10 b11)
  clear z10 b10 b11 p8 h8 H9
  have hmk : ∀ W, (Instr.makeSlice 22 (.int .i64 65) (.int .i64 65)).run Tryd.prog W = .ok (.slice (some ⟨W.heap.size, 0, none⟩) 65 65) (W.alloc (.cells (madeCells #[Value.bool (FZ 0).last, .bool (FZ 0).next, .bool (FZ 0).chain, .bool (FZ 0).fin, .bool (FZ 0).forb, .bool (FZ 0).gone, .bool (FZ 0).app, .bool (FZ 0).disc, .int .i64 (FZ 0).skip, .int .i64 (FZ 0).red] (65 * 10)) 54)) := fun _ => by kernel_rfl
  go_upto_region 10 with (fail)
  generalize (((W8.setCell ⟨W7.heap.size, 0, none⟩ (.slice B8 1 d8)).setCell ⟨W7.heap.size, 1, none⟩ (.int .i64 1)).setCell ⟨W7.heap.size, 2, none⟩ (.bool true)) = X at H10 ⊢
  clear u0 u1 u2 ul f0 f1 f2 s9
  have z11 := gr_alloc H10.out.1 (.cells (madeCells #[Value.bool (FZ 0).last, .bool (FZ 0).next, .bool (FZ 0).chain, .bool (FZ 0).fin, .bool (FZ 0).forb, .bool (FZ 0).gone, .bool (FZ 0).app, .bool (FZ 0).disc, .int .i64 (FZ 0).skip, .int .i64 (FZ 0).red] (65 * 10)) 54)
  have b11 : Blk (X.alloc (.cells (madeCells #[Value.bool (FZ 0).last, .bool (FZ 0).next, .bool (FZ 0).chain, .bool (FZ 0).fin, .bool (FZ 0).forb, .bool (FZ 0).gone, .bool (FZ 0).app, .bool (FZ 0).disc, .int .i64 (FZ 0).skip, .int .i64 (FZ 0).red] (65 * 10)) 54)) W7.heap.size 30 #[.slice B8 1 d8, .int .i64 1, .bool true] := Blk.alloc (by exact H10.out.2) _
  have c11 := cells_made (Blk.new X 54 (madeCells #[Value.bool (FZ 0).last, .bool (FZ 0).next, .bool (FZ 0).chain, .bool (FZ 0).fin, .bool (FZ 0).forb, .bool (FZ 0).gone, .bool (FZ 0).app, .bool (FZ 0).disc, .int .i64 (FZ 0).skip, .int .i64 (FZ 0).red] (65 * 10)))
  have H11 := Lib.hid (And.intro z11 (And.intro b11 c11))
  clear z11 b11 c11
  generalize madeCells #[Value.bool (FZ 0).last, .bool (FZ 0).next, .bool (FZ 0).chain, .bool (FZ 0).fin, .bool (FZ 0).forb, .bool (FZ 0).gone, .bool (FZ 0).app, .bool (FZ 0).disc, .int .i64 (FZ 0).skip, .int .i64 (FZ 0).red] (65 * 10) = M at H11 hmk
  go_wp2_with (fail)
  refine (pstart FZ FZ_ok _ 65 65 (by decide) _ (HT.out.below H11.out.1 (Nat.le_refl _)) (show ArgOk _ _ _ from fun h => by cases h) H11.out.2.2).mono ?_
  rintro e W9 ⟨B9, d9, rfl, k1, k2, k3, k4⟩
  rw [flagsZ]
  have b12 := H11.out.2.1.call k3
  have u0 := b12.cell' (i := 0) rfl
  have u1 := b12.cell' (i := 1) rfl
  have u2 := b12.cell' (i := 2) rfl
  have ul := b12.lt
  have H12 := Lib.hid (gr_call H11.out.1 k3)
  clear k1 k2 k3 k4 b12 H11
  go_wp2_with (fail)
  refine (awake _ (HT.out.below H12.out (Nat.le_refl _))).mono ?_
  rintro e W10 ⟨rfl, h10⟩
  have H13 := Lib.hid (gr_call H12.out h10)
  clear h10 H12
  go_wp2_with (fail)
  go_ret
  exact ⟨rfl, H13.out⟩
end Go.Proofs.YtjkmkpehnnkpiaaDoor
