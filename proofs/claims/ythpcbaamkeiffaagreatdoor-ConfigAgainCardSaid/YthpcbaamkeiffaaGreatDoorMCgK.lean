/-
  ConfigKnown, walked: it returns true; conditions: the tables and variables as they are laid.
-/
import Derived.Test.YthpcbaamkeiffaaGreatDoorMCgJ
namespace Go.Proofs.YthpcbaamkeiffaaGreatDoor
open Go.RowKit Go.Shelf Go.Joins
set_option linter.unusedVariables false
set_option linter.unusedSimpArgs false

theorem cell_in {α : Type} {m : Nat} {cell : α → Value → List Value} {x : α} {u : Value} {cs : Array Value} (h : cs = (cell x u).toArray) : ∀ j c, j < m → (cell x u)[j]? = some c → cs[j]? = some c := by
  intro j c _ hc
  rw [h]
  simpa using hc
theorem k1_in {W : World} {gr gd bc : Nat} (h1 : Blk W gr 66 #[.string ⟨#[94, 47, 97, 36]⟩, .bool true, .slice (some ⟨bc, 0, none⟩) 1 1, .string ⟨#[47, 98]⟩, .bool true, .bool false, .bool false, .bool false, .bool false, .bool false, .bool false, .bool false, .int .i64 0, .int .i64 0]) (h2 : Blk W gd 48 #[.string ⟨#[47]⟩, .int .i64 0, .slice (some ⟨gr, 0, none⟩) 1 1]) (h3 : Blk W bc 68 #[.string k1Cd.t, .bool true, .string k1Cd.p, .bool false, .bool true]) :
    CfIn W (.agg #[.int .i64 9, .int .i64 5, .slice (some ⟨gd, 0, none⟩) 1 1, .slice none 0 0]) k1Cf := by
  refine ⟨_, _, rfl, ?_, InL.nil _ _⟩
  refine one_in (x := (⟨⟨#[47]⟩, 0, [k1Ru]⟩ : Dr)) (u := .slice (some ⟨gr, 0, none⟩) 1 1) h2 (cell_in rfl) rfl ?_
  refine one_in (x := k1Ru) (u := .slice (some ⟨bc, 0, none⟩) 1 1) h1 (cell_in rfl) rfl ?_
  exact one_in (x := k1Cd) (u := .bool false) h3 (cell_in rfl) rfl trivial
theorem zero_sz : CfSz zeroCf := ⟨by decide, by decide, (fun x hx => by cases hx), (fun x hx => by cases hx)⟩
theorem k2_ros {W : World} {br bt : Nat} (h3 : Blk W br 70 #[.slice none 0 0, .int .i64 2, .string ⟨#[]⟩, .slice (some ⟨bt, 0, none⟩) 2 2, .int .i64 1, .string ⟨#[104, 105]⟩]) (h4 : Blk W bt 9 #[.string ⟨#[97]⟩, .string ⟨#[123, 120, 125]⟩]) : RoutesIn W (.slice (some ⟨br, 0, none⟩) 2 2) k2Cf.ros := by
  refine ⟨_, _, [.slice none 0 0, .slice (some ⟨bt, 0, none⟩) 2 2], rfl, (fun h => absurd h (by simp)), rfl, fun _ => ⟨br, 0, rfl, h3.lt, fun i j hi hj => ?_⟩, fun i x u hx hu => ?_⟩
  · rw [Nat.zero_add]
    have hi : i < 2 := hi
    have hb : ∀ k v, (#[.slice none 0 0, .int .i64 2, .string ⟨#[]⟩, .slice (some ⟨bt, 0, none⟩) 2 2, .int .i64 1, .string ⟨#[104, 105]⟩] : Array Value)[k]? = some v → W.cell? ⟨br, k, none⟩ = some v := fun k v h => h3.cell' h
    match i, hi, j, hj with
    | 0, _, 0, _ => exact hb 0 _ rfl
    | 0, _, 1, _ => exact hb 1 _ rfl
    | 0, _, 2, _ => exact hb 2 _ rfl
    | 1, _, 0, _ => exact hb 3 _ rfl
    | 1, _, 1, _ => exact hb 4 _ rfl
    | 1, _, 2, _ => exact hb 5 _ rfl
  · have hil : i < 2 := (List.getElem?_eq_some_iff.1 hu).1
    match i, hil, hx, hu with
    | 0, _, hx, hu => cases hx; cases hu; exact ⟨⟨none, 0, rfl, (fun _ => ⟨rfl, rfl⟩), fun h => absurd h (by decide)⟩, fun a n c e => by cases e; exact Nat.le_refl _⟩
    | 1, _, hx, hu => cases hx; cases hu; exact ⟨texts_blk (ts := [⟨#[97]⟩, ⟨#[123, 120, 125]⟩]) h4 rfl, fun a n c e => by cases e; exact Nat.le_refl _⟩
theorem k2_in {W : World} {gr gd br bt : Nat} (h1 : Blk W gr 66 shRC) (h2 : Blk W gd 48 #[.string ⟨#[47]⟩, .int .i64 0, .slice (some ⟨gr, 0, none⟩) 1 1]) (h3 : Blk W br 70 #[.slice none 0 0, .int .i64 2, .string ⟨#[]⟩, .slice (some ⟨bt, 0, none⟩) 2 2, .int .i64 1, .string ⟨#[104, 105]⟩]) (h4 : Blk W bt 9 #[.string ⟨#[97]⟩, .string ⟨#[123, 120, 125]⟩]) :
    CfIn W (.agg #[.int .i64 9, .int .i64 5, .slice (some ⟨gd, 0, none⟩) 1 1, .slice (some ⟨br, 0, none⟩) 2 2]) k2Cf := by
  refine ⟨_, _, rfl, ?_, k2_ros h3 h4⟩
  refine one_in (x := shDr) (u := .slice (some ⟨gr, 0, none⟩) 1 1) h2 (cell_in rfl) rfl ?_
  exact one_in (x := shRu) (u := .slice none 0 0) h1 (cell_in rfl) rfl (InL.nil _ _)
/-- What shown hands back; its memory is new. -/
def ShP2 (w : World) (e : Ending) (W : World) : Prop := ∃ gr gd, e = .returned (.agg #[.int .i64 9, .int .i64 5, .slice (some ⟨gd, 0, none⟩) 1 1, .slice none 0 0]) ∧ Blk W gr 66 shRC ∧ Blk W gd 48 #[.string ⟨#[47]⟩, .int .i64 0, .slice (some ⟨gr, 0, none⟩) 1 1] ∧ Below w.heap.size w W ∧ w.heap.size ≤ gr
set_option maxRecDepth 100000 in
set_option maxHeartbeats 4000000 in
theorem shown_code2 (w : World) : Calls Tryz.prog 31 #[] w (ShP2 w) := by
  obtain ⟨post, hpost⟩ : ∃ p, p = ShP2 w := ⟨_, rfl⟩
  rw [← hpost]
  have HP := Lib.hid hpost
  clear hpost
  go_enter Tryz.func31, Tryz.ntmps31
  go_wp2_with (fail)
  have hb : Below w.heap.size w (((w.alloc (.cells #[.int .i64 9, .int .i64 5, .slice (some ⟨w.heap.size + 1 + 1, 0, none⟩) 1 1, .slice none 0 0] 27)).alloc (.cells #[.string ⟨#[94, 47, 97, 36]⟩, .bool false, .slice none 0 0, .string ⟨#[47, 98]⟩, .bool true, .bool false, .bool false, .bool false, .bool false, .bool false, .bool false, .bool false, .int .i64 0, .int .i64 0] 66)).alloc (.cells #[.string ⟨#[47]⟩, .int .i64 0, .slice (some ⟨w.heap.size + 1, 0, none⟩) 1 1] 48)) := gr_alloc (gr_alloc (gr_alloc (Below.refl _ _) _) _) _
  have h0 : Blk (((w.alloc (.cells #[.int .i64 9, .int .i64 5, .slice (some ⟨w.heap.size + 1 + 1, 0, none⟩) 1 1, .slice none 0 0] 27)).alloc (.cells #[.string ⟨#[94, 47, 97, 36]⟩, .bool false, .slice none 0 0, .string ⟨#[47, 98]⟩, .bool true, .bool false, .bool false, .bool false, .bool false, .bool false, .bool false, .bool false, .int .i64 0, .int .i64 0] 66)).alloc (.cells #[.string ⟨#[47]⟩, .int .i64 0, .slice (some ⟨w.heap.size + 1, 0, none⟩) 1 1] 48)) w.heap.size 27 #[.int .i64 9, .int .i64 5, .slice (some ⟨w.heap.size + 1 + 1, 0, none⟩) 1 1, .slice none 0 0] := ((Blk.new _ _ _).alloc _).alloc _
  have h1 : Blk (((w.alloc (.cells #[.int .i64 9, .int .i64 5, .slice (some ⟨w.heap.size + 1 + 1, 0, none⟩) 1 1, .slice none 0 0] 27)).alloc (.cells #[.string ⟨#[94, 47, 97, 36]⟩, .bool false, .slice none 0 0, .string ⟨#[47, 98]⟩, .bool true, .bool false, .bool false, .bool false, .bool false, .bool false, .bool false, .bool false, .int .i64 0, .int .i64 0] 66)).alloc (.cells #[.string ⟨#[47]⟩, .int .i64 0, .slice (some ⟨w.heap.size + 1, 0, none⟩) 1 1] 48)) (w.heap.size + 1) 66 shRC := Blk.alloc (blk_at (by simp [shRC])) _
  have h2 : Blk (((w.alloc (.cells #[.int .i64 9, .int .i64 5, .slice (some ⟨w.heap.size + 1 + 1, 0, none⟩) 1 1, .slice none 0 0] 27)).alloc (.cells #[.string ⟨#[94, 47, 97, 36]⟩, .bool false, .slice none 0 0, .string ⟨#[47, 98]⟩, .bool true, .bool false, .bool false, .bool false, .bool false, .bool false, .bool false, .bool false, .int .i64 0, .int .i64 0] 66)).alloc (.cells #[.string ⟨#[47]⟩, .int .i64 0, .slice (some ⟨w.heap.size + 1, 0, none⟩) 1 1] 48)) (w.heap.size + 1 + 1) 48 #[.string ⟨#[47]⟩, .int .i64 0, .slice (some ⟨w.heap.size + 1, 0, none⟩) 1 1] := blk_at (by simp)
  generalize (((w.alloc (.cells #[.int .i64 9, .int .i64 5, .slice (some ⟨w.heap.size + 1 + 1, 0, none⟩) 1 1, .slice none 0 0] 27)).alloc (.cells #[.string ⟨#[94, 47, 97, 36]⟩, .bool false, .slice none 0 0, .string ⟨#[47, 98]⟩, .bool true, .bool false, .bool false, .bool false, .bool false, .bool false, .bool false, .bool false, .int .i64 0, .int .i64 0] 66)).alloc (.cells #[.string ⟨#[47]⟩, .int .i64 0, .slice (some ⟨w.heap.size + 1, 0, none⟩) 1 1] 48)) = Z at hb h0 h1 h2 ⊢
  have r0 : Z.cell? ⟨w.heap.size, 0, none⟩ = some (.int .i64 9) := h0.cell' (i := 0) rfl
  have r1 : Z.cell? ⟨w.heap.size, 1, none⟩ = some (.int .i64 5) := h0.cell' (i := 1) rfl
  have r2 : Z.cell? ⟨w.heap.size, 2, none⟩ = some (.slice (some ⟨w.heap.size + 1 + 1, 0, none⟩) 1 1) := h0.cell' (i := 2) rfl
  have r3 : Z.cell? ⟨w.heap.size, 3, none⟩ = some (.slice none 0 0) := h0.cell' (i := 3) rfl
  refine bodyPost_ret (v := .agg #[.int .i64 9, .int .i64 5, .slice (some ⟨w.heap.size + 1 + 1, 0, none⟩) 1 1, .slice none 0 0]) (by simp [results, Tryz.results31, go_sem, r0, r1, r2, r3]) rfl ?_
  rw [HP.out]
  exact ⟨_, _, rfl, h1, h2, hb, Nat.le_succ _⟩
set_option maxRecDepth 100000 in
set_option maxHeartbeats 16000000 in
theorem law_known (w : World) (hE : Env w) : Calls Tryz.prog 7 #[] w (TrueP w) := by
  have HE := Lib.hid hE
  clear hE
  go_enter Tryz.func7, Tryz.ntmps7
  go_wp2_with (fail)
  refine (shown_code2 _).mono ?_
  rintro e W1 ⟨gr, gd, rfl, h1, h2, hb1, hgr⟩
  have r1 : W1.cell? ⟨gr, 1, none⟩ = some (.bool false) := h1.cell' (i := 1) rfl
  have r2 : W1.cell? ⟨gr, 2, none⟩ = some (.slice none 0 0) := h1.cell' (i := 2) rfl
  have rf1 := h1.frozen 1
  have rf2 := h1.frozen 2
  have rl := h1.lt
  have d2 : W1.cell? ⟨gd, 2, none⟩ = some (.slice (some ⟨gr, 0, none⟩) 1 1) := h2.cell' (i := 2) rfl
  have dl := h2.lt
  have hne : gd ≠ gr := h2.ne_ h1 (by decide)
  have B1 := Lib.hid (And.intro h1 (And.intro h2 (And.intro hb1 hgr)))
  clear h1 h2 hb1 hgr
  go_wp2_with (fail)
  have g1 : Blk ((((W1.setCell ⟨gr, 1, none⟩ (.bool true)).setCell ⟨gr, 2, none⟩ (.slice (some ⟨W1.heap.size + 1, 0, none⟩) 1 1)).alloc (.cells #[.int .i64 9, .int .i64 5, .slice (some ⟨gd, 0, none⟩) 1 1, .slice none 0 0] 27)).alloc (.cells #[.string ⟨#[37, 123, 81, 85, 69, 82, 89, 125]⟩, .bool true, .string ⟨#[120, 32, 121]⟩, .bool false, .bool true] 68)) gr 66 #[.string ⟨#[94, 47, 97, 36]⟩, .bool true, .slice (some ⟨W1.heap.size + 1, 0, none⟩) 1 1, .string ⟨#[47, 98]⟩, .bool true, .bool false, .bool false, .bool false, .bool false, .bool false, .bool false, .bool false, .int .i64 0, .int .i64 0] := (((B1.out.1.set_ 1 (.bool true)).set_ 2 (.slice (some ⟨W1.heap.size + 1, 0, none⟩) 1 1)).alloc _).alloc _
  have g2 : Blk ((((W1.setCell ⟨gr, 1, none⟩ (.bool true)).setCell ⟨gr, 2, none⟩ (.slice (some ⟨W1.heap.size + 1, 0, none⟩) 1 1)).alloc (.cells #[.int .i64 9, .int .i64 5, .slice (some ⟨gd, 0, none⟩) 1 1, .slice none 0 0] 27)).alloc (.cells #[.string ⟨#[37, 123, 81, 85, 69, 82, 89, 125]⟩, .bool true, .string ⟨#[120, 32, 121]⟩, .bool false, .bool true] 68)) gd 48 #[.string ⟨#[47]⟩, .int .i64 0, .slice (some ⟨gr, 0, none⟩) 1 1] := (((B1.out.2.1.far (p := ⟨gr, 1, none⟩) hne _).far (p := ⟨gr, 2, none⟩) hne _).alloc _).alloc _
  have g3 : Blk ((((W1.setCell ⟨gr, 1, none⟩ (.bool true)).setCell ⟨gr, 2, none⟩ (.slice (some ⟨W1.heap.size + 1, 0, none⟩) 1 1)).alloc (.cells #[.int .i64 9, .int .i64 5, .slice (some ⟨gd, 0, none⟩) 1 1, .slice none 0 0] 27)).alloc (.cells #[.string ⟨#[37, 123, 81, 85, 69, 82, 89, 125]⟩, .bool true, .string ⟨#[120, 32, 121]⟩, .bool false, .bool true] 68)) (W1.heap.size + 1) 68 #[.string k1Cd.t, .bool true, .string k1Cd.p, .bool false, .bool true] := blk_at (by simp [World.setCell])
  have gb : Below w.heap.size w ((((W1.setCell ⟨gr, 1, none⟩ (.bool true)).setCell ⟨gr, 2, none⟩ (.slice (some ⟨W1.heap.size + 1, 0, none⟩) 1 1)).alloc (.cells #[.int .i64 9, .int .i64 5, .slice (some ⟨gd, 0, none⟩) 1 1, .slice none 0 0] 27)).alloc (.cells #[.string ⟨#[37, 123, 81, 85, 69, 82, 89, 125]⟩, .bool true, .string ⟨#[120, 32, 121]⟩, .bool false, .bool true] 68)) := gr_alloc (gr_alloc ((B1.out.2.2.1.setCell B1.out.2.2.2 _).setCell B1.out.2.2.2 _) _) _
  have ht := k1_code (HE.out.below gb) (k1_in g1 g2 g3)
  have C1 := Lib.hid gb
  clear g1 g2 g3 gb r1 r2 rf1 rf2 rl d2 dl hne
  refine ht.mono ?_
  rintro e W2 ⟨rfl, hb2⟩
  have C2 := Lib.hid (gr_call C1.out hb2)
  clear ht hb2 C1
  go_wp2_with (fail)
  refine (shown_code2 _).mono ?_
  rintro e W3 ⟨gr, gd, rfl, h1, h2, hb3, hgr⟩
  have C3 := Lib.hid (And.intro (gr_call C2.out hb3) (And.intro h1 h2))
  clear h1 h2 hb3 hgr
  go_wp2_with (fail)
  have f1 : Blk (((W3.alloc (.cells #[.int .i64 9, .int .i64 5, .slice (some ⟨gd, 0, none⟩) 1 1, .slice (some ⟨W3.heap.size + 1 + 1, 0, none⟩) 2 2] 27)).alloc (.cells #[.string ⟨#[97]⟩, .string ⟨#[123, 120, 125]⟩] 9)).alloc (.cells #[.slice none 0 0, .int .i64 2, .string ⟨#[]⟩, .slice (some ⟨W3.heap.size + 1, 0, none⟩) 2 2, .int .i64 1, .string ⟨#[104, 105]⟩] 70)) gr 66 shRC := ((C3.out.2.1.alloc _).alloc _).alloc _
  have f2 : Blk (((W3.alloc (.cells #[.int .i64 9, .int .i64 5, .slice (some ⟨gd, 0, none⟩) 1 1, .slice (some ⟨W3.heap.size + 1 + 1, 0, none⟩) 2 2] 27)).alloc (.cells #[.string ⟨#[97]⟩, .string ⟨#[123, 120, 125]⟩] 9)).alloc (.cells #[.slice none 0 0, .int .i64 2, .string ⟨#[]⟩, .slice (some ⟨W3.heap.size + 1, 0, none⟩) 2 2, .int .i64 1, .string ⟨#[104, 105]⟩] 70)) gd 48 #[.string ⟨#[47]⟩, .int .i64 0, .slice (some ⟨gr, 0, none⟩) 1 1] := ((C3.out.2.2.alloc _).alloc _).alloc _
  have f4 : Blk (((W3.alloc (.cells #[.int .i64 9, .int .i64 5, .slice (some ⟨gd, 0, none⟩) 1 1, .slice (some ⟨W3.heap.size + 1 + 1, 0, none⟩) 2 2] 27)).alloc (.cells #[.string ⟨#[97]⟩, .string ⟨#[123, 120, 125]⟩] 9)).alloc (.cells #[.slice none 0 0, .int .i64 2, .string ⟨#[]⟩, .slice (some ⟨W3.heap.size + 1, 0, none⟩) 2 2, .int .i64 1, .string ⟨#[104, 105]⟩] 70)) (W3.heap.size + 1) 9 #[.string ⟨#[97]⟩, .string ⟨#[123, 120, 125]⟩] := Blk.alloc (blk_at (by simp)) _
  have f3 : Blk (((W3.alloc (.cells #[.int .i64 9, .int .i64 5, .slice (some ⟨gd, 0, none⟩) 1 1, .slice (some ⟨W3.heap.size + 1 + 1, 0, none⟩) 2 2] 27)).alloc (.cells #[.string ⟨#[97]⟩, .string ⟨#[123, 120, 125]⟩] 9)).alloc (.cells #[.slice none 0 0, .int .i64 2, .string ⟨#[]⟩, .slice (some ⟨W3.heap.size + 1, 0, none⟩) 2 2, .int .i64 1, .string ⟨#[104, 105]⟩] 70)) (W3.heap.size + 1 + 1) 70 #[.slice none 0 0, .int .i64 2, .string ⟨#[]⟩, .slice (some ⟨W3.heap.size + 1, 0, none⟩) 2 2, .int .i64 1, .string ⟨#[104, 105]⟩] := blk_at (by simp)
  have gb : Below w.heap.size w (((W3.alloc (.cells #[.int .i64 9, .int .i64 5, .slice (some ⟨gd, 0, none⟩) 1 1, .slice (some ⟨W3.heap.size + 1 + 1, 0, none⟩) 2 2] 27)).alloc (.cells #[.string ⟨#[97]⟩, .string ⟨#[123, 120, 125]⟩] 9)).alloc (.cells #[.slice none 0 0, .int .i64 2, .string ⟨#[]⟩, .slice (some ⟨W3.heap.size + 1, 0, none⟩) 2 2, .int .i64 1, .string ⟨#[104, 105]⟩] 70)) := gr_alloc (gr_alloc (gr_alloc C3.out.1 _) _) _
  have ht := k2_code (HE.out.below gb) (k2_in f1 f2 f3 f4)
  have C4 := Lib.hid gb
  clear f1 f2 f3 f4 gb
  refine ht.mono ?_
  rintro e X0 ⟨rfl, hb⟩
  have D0 := Lib.hid (gr_call C4.out hb)
  clear ht hb C4 C3 C2
  go_wp2_with (fail)
  refine (kf0 (HE.out.below D0.out)).mono ?_
  rintro e X1 ⟨rfl, hb⟩
  have D1 := Lib.hid (gr_call D0.out hb)
  clear hb D0
  go_wp2_with (fail)
  refine (kf1 (HE.out.below D1.out)).mono ?_
  rintro e X2 ⟨rfl, hb⟩
  have D2 := Lib.hid (gr_call D1.out hb)
  clear hb D1
  go_wp2_with (fail)
  refine (kf2 (HE.out.below D2.out)).mono ?_
  rintro e X3 ⟨rfl, hb⟩
  have D3 := Lib.hid (gr_call D2.out hb)
  clear hb D2
  go_wp2_with (fail)
  refine (kf3 (HE.out.below D3.out)).mono ?_
  rintro e X4 ⟨rfl, hb⟩
  have D4 := Lib.hid (gr_call D3.out hb)
  clear hb D3
  go_wp2_with (fail)
  refine (kf4 (HE.out.below D4.out)).mono ?_
  rintro e X5 ⟨rfl, hb⟩
  have D5 := Lib.hid (gr_call D4.out hb)
  clear hb D4
  go_wp2_with (fail)
  refine (kf5 (HE.out.below D5.out)).mono ?_
  rintro e X6 ⟨rfl, hb⟩
  have D6 := Lib.hid (gr_call D5.out hb)
  clear hb D5
  go_wp2_with (fail)
  refine (kf6 (HE.out.below D6.out)).mono ?_
  rintro e X7 ⟨rfl, hb⟩
  have D7 := Lib.hid (gr_call D6.out hb)
  clear hb D6
  go_wp2_with (fail)
  have hs0 := segments_code ⟨#[47, 97, 47, 98]⟩ w.heap.size (by decide) X7 (HE.out.below D7.out).max D7.out.size
  rw [ks0] at hs0
  refine hs0.mono ?_
  rintro e X8 ⟨⟨v0, rfl, hv0⟩, hb⟩
  obtain ⟨A0, c0, rfl⟩ := own_slice hv0
  have D8 := Lib.hid (And.intro (gr_call D7.out hb) (And.intro (own_texts hv0) (Below.refl X8.heap.size X8)))
  clear hs0 hb hv0 D7
  go_wp2_with (fail)
  have hs1 := segments_code ⟨#[47]⟩ w.heap.size (by decide) X8 (HE.out.below D8.out.1).max D8.out.1.size
  rw [ks1] at hs1
  refine hs1.mono ?_
  rintro e X9 ⟨⟨v1, rfl, hv1⟩, hb⟩
  obtain ⟨A1, c1, rfl⟩ := own_slice hv1
  have D9 := Lib.hid (And.intro (gr_call D8.out.1 hb) (And.intro (D8.out.2.1.below hb) hb))
  clear hs1 hb hv1 D8
  go_wp2_with (fail)
  have hs2 := segments_code ⟨#[47, 97, 47]⟩ w.heap.size (by decide) X9 (HE.out.below D9.out.1).max D9.out.1.size
  rw [ks2] at hs2
  refine hs2.mono ?_
  rintro e X10 ⟨rfl, hb⟩
  have D10 := Lib.hid (And.intro (gr_call D9.out.1 hb) (D9.out.2.1.below hb))
  clear hs2 hb D9
  go_wp2_with (fail)
  have hs3 := segments_code ⟨#[97]⟩ w.heap.size (by decide) X10 (HE.out.below D10.out.1).max D10.out.1.size
  rw [ks3] at hs3
  refine hs3.mono ?_
  rintro e X11 ⟨rfl, hb⟩
  have D11 := Lib.hid (And.intro (gr_call D10.out.1 hb) (D10.out.2.below hb))
  clear hs3 hb D10
  go_wp2_with (fail)
  refine (same_txs [⟨#[97]⟩, ⟨#[98]⟩] (by decide) _ _ _ (D11.out.2.below (gr_alloc (Below.refl _ _) _)) (texts_blk (ts := [⟨#[97]⟩, ⟨#[98]⟩]) (Blk.new _ _ _) rfl)).mono ?_
  rintro e X12 ⟨rfl, hb⟩
  have D12 := Lib.hid (gr_call (gr_alloc D11.out.1 _) hb)
  clear hb D11
  go_wp2_with (fail)
  refine (shown_code _).mono ?_
  rintro e X13 ⟨gr3, gd3, rfl, h1, h2, hb⟩
  have hw := without_code shCf sh_sz 0 0 _ X13 (sh_in (w := w) h1 h2)
  rw [show wodP shCf 0 0 = (⟨9, 5, [⟨⟨#[47]⟩, 0, []⟩], []⟩, 0) by decide +kernel] at hw
  have D13 := Lib.hid (gr_call D12.out hb)
  clear h1 h2 hb D12
  go_wp2_with (fail)
  refine hw.mono ?_
  rintro e X14 ⟨v, rfl, hv, hb⟩
  have hv2 : CfIn X14 v ⟨9, 5, [⟨⟨#[47]⟩, 0, []⟩], []⟩ := hv
  have D14 := Lib.hid (gr_call D13.out hb)
  clear hw hv hb D13
  obtain ⟨d3, r3, rfl, hd3, hr3⟩ := hv2
  obtain ⟨eA, ec, us3, rfl, _, hus3, hc3, hE3⟩ := hd3
  obtain ⟨sA, sc, rfl⟩ := InL.slice hr3
  have k18 : Blk (X14.alloc (.cells #[.int .i64 9, .int .i64 5, .slice eA 1 ec, .slice sA 0 sc] 27)) X14.heap.size 27 #[.int .i64 9, .int .i64 5, .slice eA 1 ec, .slice sA 0 sc] := Blk.new _ _ _
  have E0 := Lib.hid (And.intro (gr_alloc D14.out (.cells #[.int .i64 9, .int .i64 5, .slice eA 1 ec, .slice sA 0 sc] 27)) (And.intro k18 (gr_alloc (Below.refl X14.heap.size X14) (.cells #[.int .i64 9, .int .i64 5, .slice eA 1 ec, .slice sA 0 sc] 27))))
  have Q := Lib.hid (And.intro hc3 (And.intro hus3 hE3))
  clear k18 hc3 hus3 hE3 hr3 D14
  go_wp2_with (fail)
  have hw := fun W => without_code zeroCf zero_sz 0 0 _ W (CfIn.zero _)
  rw [show wodP zeroCf 0 0 = (zeroCf, 2) by decide +kernel] at hw
  refine (hw _).mono ?_
  rintro e X15 ⟨v, rfl, hv, hb⟩
  have E1 := Lib.hid (And.intro (gr_call E0.out.1 hb) (And.intro (E0.out.2.1.call hb) (gr_call E0.out.2.2 hb)))
  obtain ⟨d4, r4, rfl, hd4, hr4⟩ := hv
  obtain ⟨fA, fc, rfl⟩ := InL.slice hd4
  obtain ⟨hA', hc', rfl⟩ := InL.slice hr4
  clear hw hb hd4 hr4 E0
  go_wp2_with (fail)
  refine (shown_code _).mono ?_
  rintro e X16 ⟨gr3, gd3, rfl, h1, h2, hb⟩
  have hw := only_bad shCf sh_sz 1 (.inr (by decide)) _ X16 (sh_in (w := w) h1 h2)
  rw [show onlP shCf 1 = (zeroCf, 2) by decide +kernel] at hw
  have E2 := Lib.hid (And.intro (gr_call (gr_alloc E1.out.1 _) hb) (And.intro ((E1.out.2.1.alloc _).call hb) (gr_call (gr_alloc E1.out.2.2 _) hb)))
  clear h1 h2 hb E1
  go_wp2_with (fail)
  refine hw.mono ?_
  rintro e X17 ⟨v, rfl, hv, hb⟩
  have E3 := Lib.hid (And.intro (gr_call E2.out.1 hb) (And.intro (E2.out.2.1.call hb) (gr_call E2.out.2.2 hb)))
  obtain ⟨d5, r5, rfl, hd5, hr5⟩ := hv
  obtain ⟨kA, kc, rfl⟩ := InL.slice hd5
  obtain ⟨lA, lc, rfl⟩ := InL.slice hr5
  clear hw hb hd5 hr5 E2
  go_wp2_with (fail)
  refine (law_awake _ (HE.out.below (gr_alloc E3.out.1 _))).mono ?_
  rintro e X18 ⟨rfl, hb⟩
  have hB := gr_call (gr_alloc E3.out.2.2 _) hb
  have k18 := (E3.out.2.1.alloc _).call hb
  have F := Lib.hid (gr_call (gr_alloc E3.out.1 _) hb)
  have l0 : X18.cell? ⟨X14.heap.size, 2, none⟩ = some (.slice eA 1 ec) := k18.cell' (i := 2) rfl
  have ll := k18.lt
  obtain ⟨ab, ao, x, u, rfl, hab, hx, hu, g0, g1, g2⟩ := cells_dr (l := [⟨⟨#[47]⟩, 0, []⟩]) (k := 0) (Q.out.1.below hB) rfl Q.out.2.1 (by decide)
  obtain rfl : (⟨⟨#[47]⟩, 0, []⟩ : Dr) = x := Option.some.inj hx
  obtain ⟨uA, uc, rfl⟩ := InL.slice (Q.out.2.2 0 _ u rfl hu)
  rw [Nat.zero_mul, Nat.add_zero] at g2
  clear hB k18 hb E3 hx hu g0 g1
  go_wp2_with (fail)
  go_ret
  exact ⟨rfl, F.out⟩
end Go.Proofs.YthpcbaamkeiffaaGreatDoor
