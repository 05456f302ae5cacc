/-
  Without and Only of config, walked; conditions: sizes.
  Without and Only of config, walked; conditions: sizes.
  ConfigKnown, walked: it returns true; conditions: the tables and variables as they are laid.
-/
import Derived.IntWalk
import Derived.Test.YthpcbaamkeiffaaGreatDoorMCgE
import Derived.Test.YthpcbaamkeiffaaGreatDoorMCgF
import Derived.Test.YthpcbaamkeiffaaGreatDoorMCgB
namespace Go.Proofs.YthpcbaamkeiffaaGreatDoor
open Go.RowKit Go.Shelf
set_option linter.unusedVariables false
set_option linter.unusedSimpArgs false

theorem Each.cut {α : Type} {p : α → Value → Prop} {xs : List α} {us : List Value} (h : Each p xs us) (hl : us.length = xs.length) (i j : Nat) : Each p (xs.take i ++ xs.drop j) (us.take i ++ us.drop j) := by
  intro k x u hx hu
  have e : (us.take i).length = (xs.take i).length := by simp [hl]
  by_cases hk : k < (xs.take i).length
  · rw [List.getElem?_append_left hk] at hx
    rw [List.getElem?_append_left (by omega)] at hu
    have hki : k < i := by rw [List.length_take] at hk; omega
    rw [List.getElem?_take_of_lt hki] at hx hu
    exact h k x u hx hu
  · rw [List.getElem?_append_right (by omega), List.getElem?_drop] at hx
    rw [List.getElem?_append_right (by omega), List.getElem?_drop, e] at hu
    exact h _ x u hx hu
/-- A configuration without a rule; with one directory. -/
def wodP (c : Cf) (d r : Int) : Cf × Int := if d < 0 ∨ (c.dirs.length : Int) ≤ d then (zeroCf, 2) else match c.dirs[d.toNat]? with
  | none => (zeroCf, 2)
  | some x => if r < 0 ∨ (x.rus.length : Int) ≤ r then (zeroCf, 2) else ({ c with dirs := c.dirs.set d.toNat ⟨x.path, x.mode, x.rus.take r.toNat ++ x.rus.drop (r.toNat + 1)⟩ }, 0)
def onlP (c : Cf) (d : Int) : Cf × Int := if d < 0 ∨ (c.dirs.length : Int) ≤ d then (zeroCf, 2) else match c.dirs[d.toNat]? with
  | none => (zeroCf, 2)
  | some x => ({ c with dirs := [x] }, 0)
/-- What the two hand back. -/
def CutP (w : World) (r : Cf × Int) (e : Ending) (W : World) : Prop := ∃ v, e = .returned (.tuple #[v, .int .i64 r.2]) ∧ CfIn W v r.1 ∧ Below w.heap.size w W
/-- Rules are cut in place: what there is to read. -/
theorem cut_in {V W3 : World} {B L : Nat} {gd nd dc gr n cap : Nat} {xs : List Dr} {us vs : List Value} {k i j : Nat} {x : Dr} (hU : OwnU 48 3 drC V B (.slice (some ⟨gd, 0, none⟩) nd dc) xs us) (hE : Each (fun x u => RusMem V B L u x.rus) xs us) (hA : Aparts us)
    (hx : xs[k]? = some x) (hu : us[k]? = some (.slice (some ⟨gr, 0, none⟩) n cap)) (hv : OwnU 66 14 ruC V B (.slice (some ⟨gr, 0, none⟩) n cap) x.rus vs) (hvE : Each (fun y q => CdsMem V B L q y.cds) x.rus vs) {n' : Nat}
    (hw : OwnU 66 14 ruC W3 B (.slice (some ⟨gr, 0, none⟩) n' cap) (x.rus.take i ++ x.rus.drop j) (vs.take i ++ vs.drop j)) (hg : V.grownBy W3 (some gr)) :
    ∃ us', OwnU 48 3 drC (W3.setCell ⟨gd, k * 3 + 2, none⟩ (.slice (some ⟨gr, 0, none⟩) n' cap)) B (.slice (some ⟨gd, 0, none⟩) nd dc) (xs.set k ⟨x.path, x.mode, x.rus.take i ++ x.rus.drop j⟩) us' ∧ Each (fun x u => RusMem (W3.setCell ⟨gd, k * 3 + 2, none⟩ (.slice (some ⟨gr, 0, none⟩) n' cap)) B L u x.rus) (xs.set k ⟨x.path, x.mode, x.rus.take i ++ x.rus.drop j⟩) us' := by
  obtain ⟨cr, hgr⟩ : ∃ q, Blk V gr 66 q := by
    rcases hv.2.2 with ⟨e, _⟩ | ⟨g', cap', cur, e, _, hh, _⟩
    · cases e
    · cases e; exact ⟨cur, hh⟩
  obtain ⟨cd, hgd⟩ : ∃ q, Blk V gd 48 q := by
    rcases hU.2.2 with ⟨e, _⟩ | ⟨g', cap', cur, e, _, hh, _⟩
    · cases e
    · cases e; exact ⟨cur, hh⟩
  have hdr : gd ≠ gr := hgd.ne_ hgr (by decide)
  have k1 : ∀ q t c, Blk V q t c → q ≠ gr → Blk W3 q t c := fun q t c h hne => h.grown hg (by simpa using hne)
  have hgd3 := k1 _ _ _ hgd hdr
  have k2 : ∀ q t c, Blk W3 q t c → t ≠ 48 → Blk (W3.setCell ⟨gd, k * 3 + 2, none⟩ (.slice (some ⟨gr, 0, none⟩) n' cap)) q t c := fun q t c h ht => h.far (h.ne_ hgd3 ht) _
  have hU3 : OwnU 48 3 drC W3 B (.slice (some ⟨gd, 0, none⟩) nd dc) xs us := hU.keep fun q c hq hb => k1 q _ c hb (by cases hq; exact hdr)
  have hst := hU3.stored drC_len hx hu (show 2 < 3 by decide) (c := .slice (some ⟨gr, 0, none⟩) n' cap) (y := ⟨x.path, x.mode, x.rus.take i ++ x.rus.drop j⟩) (v := .slice (some ⟨gr, 0, none⟩) n' cap) rfl
  have hul := (List.getElem?_eq_some_iff.1 hu).1
  have hxl := (List.getElem?_eq_some_iff.1 hx).1
  refine ⟨_, hst, fun m y u hy hu' => ?_⟩
  by_cases e : k = m
  · subst e
    rw [List.getElem?_set_self hxl] at hy
    rw [List.getElem?_set_self hul] at hu'
    cases hy; cases hu'
    have hw2 := hw.keep (W' := W3.setCell ⟨gd, k * 3 + 2, none⟩ (.slice (some ⟨gr, 0, none⟩) n' cap)) fun q c _ hb => k2 q _ c hb (by decide)
    exact ⟨_, hw2, (hvE.cut hv.1 i j).imp fun y q _ h => h.keep fun q c _ hb => k2 q _ c (k1 q _ c hb (hb.ne_ hgr (by decide))) (by decide)⟩
  · rw [List.getElem?_set_ne e] at hy hu'
    refine (hE m y u hy hu').keep (fun q c hq hb => k2 q _ c (k1 q _ c hb ?_) (by decide)) (fun q c _ hb => k2 q _ c (k1 q _ c hb (hb.ne_ hgr (by decide))) (by decide))
    rintro rfl
    exact hA k m _ u hu hu' e q rfl hq
end Go.Proofs.YthpcbaamkeiffaaGreatDoor
namespace Go.Proofs.YthpcbaamkeiffaaGreatDoor
open Go.RowKit Go.Shelf
set_option linter.unusedVariables false
set_option linter.unusedSimpArgs false

theorem wod_bad {c : Cf} {d r : Int} (h : d < 0 ∨ (c.dirs.length : Int) ≤ d) : wodP c d r = (zeroCf, 2) := by unfold wodP; rw [if_pos h]
theorem wod_at {c : Cf} {k : Nat} {r : Int} {x : Dr} (h : c.dirs[k]? = some x) : wodP c k r = if r < 0 ∨ (x.rus.length : Int) ≤ r then (zeroCf, 2) else ({ c with dirs := c.dirs.set k ⟨x.path, x.mode, x.rus.take r.toNat ++ x.rus.drop (r.toNat + 1)⟩ }, 0) := by
  have hl := (List.getElem?_eq_some_iff.1 h).1
  unfold wodP
  rw [if_neg (by omega), Int.toNat_natCast, h]
theorem onl_bad {c : Cf} {d : Int} (h : d < 0 ∨ (c.dirs.length : Int) ≤ d) : onlP c d = (zeroCf, 2) := by unfold onlP; rw [if_pos h]
theorem onl_at {c : Cf} {k : Nat} {x : Dr} (h : c.dirs[k]? = some x) : onlP c k = ({ c with dirs := [x] }, 0) := by
  have hl := (List.getElem?_eq_some_iff.1 h).1
  unfold onlP
  rw [if_neg (by omega), Int.toNat_natCast, h]
set_option maxRecDepth 100000 in
set_option maxHeartbeats 8000000 in
theorem without_code (c : Cf) (hz : CfSz c) (d r : Int) (v : Value) (w : World) (hv : CfIn w v c) : Calls Tryz.prog 18 #[v, .int .i64 d, .int .i64 r] w (CutP w (wodP c d r)) := by
  have hvc := hv
  obtain ⟨d0, r0, rfl, hd, hr⟩ := hv
  obtain ⟨dA, dc, rfl⟩ := InL.slice hd
  obtain ⟨rA, rc, rfl⟩ := InL.slice hr
  have hown := fun W (hW : Below w.heap.size w W) => own_code c hz _ W (hvc.below hW)
  obtain ⟨nd, hnd⟩ : ∃ k, k = c.dirs.length := ⟨_, rfl⟩
  obtain ⟨nr, hnr⟩ : ∃ k, k = c.ros.length := ⟨_, rfl⟩
  rw [← hnd, ← hnr] at hown ⊢
  have hndi : nd ≤ 1000000 := by rw [hnd]; exact hz.dirs
  obtain ⟨post, hpost⟩ : ∃ p, p = CutP w (wodP c d r) := ⟨_, rfl⟩
  rw [← hpost]
  have HP := Lib.hid hpost
  have H := Lib.hid (And.intro hd (And.intro hz (And.intro hnd hnr)))
  clear hd hr hz hvc hnd hnr hpost
  by_cases h0 : d < 0
  · have hw := Lib.hid (wod_bad (c := c) (d := d) (r := r) (.inl h0))
    go_enter Tryz.func18, Tryz.ntmps18
    go_wp2_with (fail)
    have zb : Below w.heap.size w ((w.alloc (.cells #[.int .i64 c.cap, .int .i64 c.lim, .slice dA nd dc, .slice rA nr rc] 27)).alloc (.cells #[.int .i64 0, .int .i64 0, .slice none 0 0, .slice none 0 0] 27)) := gr_alloc (gr_alloc (Below.refl _ _) _) _
    have zr : Blk ((w.alloc (.cells #[.int .i64 c.cap, .int .i64 c.lim, .slice dA nd dc, .slice rA nr rc] 27)).alloc (.cells #[.int .i64 0, .int .i64 0, .slice none 0 0, .slice none 0 0] 27)) (w.heap.size + 1) 27 #[.int .i64 0, .int .i64 0, .slice none 0 0, .slice none 0 0] := blk_at (by simp)
    generalize ((w.alloc (.cells #[.int .i64 c.cap, .int .i64 c.lim, .slice dA nd dc, .slice rA nr rc] 27)).alloc (.cells #[.int .i64 0, .int .i64 0, .slice none 0 0, .slice none 0 0] 27)) = Z at zb zr ⊢
    have r0 : Z.cell? ⟨w.heap.size + 1, 0, none⟩ = some (.int .i64 0) := zr.cell' (i := 0) rfl
    have r1 : Z.cell? ⟨w.heap.size + 1, 1, none⟩ = some (.int .i64 0) := zr.cell' (i := 1) rfl
    have r2 : Z.cell? ⟨w.heap.size + 1, 2, none⟩ = some (.slice none 0 0) := zr.cell' (i := 2) rfl
    have r3 : Z.cell? ⟨w.heap.size + 1, 3, none⟩ = some (.slice none 0 0) := zr.cell' (i := 3) rfl
    refine bodyPost_ret (v := .tuple #[.agg #[.int .i64 0, .int .i64 0, .slice none 0 0, .slice none 0 0], .int .i64 2]) (by simp [results, Tryz.results18, go_sem, r0, r1, r2, r3]) rfl ?_
    rw [HP.out, hw.out]
    exact ⟨_, rfl, CfIn.zero _, zb⟩
  by_cases h1 : (nd : Int) ≤ d
  · have hw := Lib.hid (wod_bad (c := c) (d := d) (r := r) (.inr (by rw [← H.out.2.2.1]; exact h1)))
    go_enter Tryz.func18, Tryz.ntmps18
    go_wp2_with (fail)
    have zb : Below w.heap.size w ((w.alloc (.cells #[.int .i64 c.cap, .int .i64 c.lim, .slice dA nd dc, .slice rA nr rc] 27)).alloc (.cells #[.int .i64 0, .int .i64 0, .slice none 0 0, .slice none 0 0] 27)) := gr_alloc (gr_alloc (Below.refl _ _) _) _
    have zr : Blk ((w.alloc (.cells #[.int .i64 c.cap, .int .i64 c.lim, .slice dA nd dc, .slice rA nr rc] 27)).alloc (.cells #[.int .i64 0, .int .i64 0, .slice none 0 0, .slice none 0 0] 27)) (w.heap.size + 1) 27 #[.int .i64 0, .int .i64 0, .slice none 0 0, .slice none 0 0] := blk_at (by simp)
    generalize ((w.alloc (.cells #[.int .i64 c.cap, .int .i64 c.lim, .slice dA nd dc, .slice rA nr rc] 27)).alloc (.cells #[.int .i64 0, .int .i64 0, .slice none 0 0, .slice none 0 0] 27)) = Z at zb zr ⊢
    have r0 : Z.cell? ⟨w.heap.size + 1, 0, none⟩ = some (.int .i64 0) := zr.cell' (i := 0) rfl
    have r1 : Z.cell? ⟨w.heap.size + 1, 1, none⟩ = some (.int .i64 0) := zr.cell' (i := 1) rfl
    have r2 : Z.cell? ⟨w.heap.size + 1, 2, none⟩ = some (.slice none 0 0) := zr.cell' (i := 2) rfl
    have r3 : Z.cell? ⟨w.heap.size + 1, 3, none⟩ = some (.slice none 0 0) := zr.cell' (i := 3) rfl
    refine bodyPost_ret (v := .tuple #[.agg #[.int .i64 0, .int .i64 0, .slice none 0 0, .slice none 0 0], .int .i64 2]) (by simp [results, Tryz.results18, go_sem, r0, r1, r2, r3]) rfl ?_
    rw [HP.out, hw.out]
    exact ⟨_, rfl, CfIn.zero _, zb⟩
  obtain ⟨k, rfl⟩ : ∃ k : Nat, d = (k : Int) := ⟨d.toNat, by omega⟩
  have hkl : k < nd := by omega
  have hki : (k : Int) < nd := by omega
  clear h0 h1
  obtain ⟨x, hx⟩ : ∃ x, c.dirs[k]? = some x := ⟨_, List.getElem?_eq_getElem (by have := H.out.2.2.1; omega)⟩
  have hwx := wod_at (r := r) hx
  obtain ⟨A, c2, us0, hdv, _, hus0, hcA, hcE⟩ := H.out.1
  cases hdv
  obtain ⟨ab, ao, y, u0, rfl, hab, hy, hu0, g0, g1, g2⟩ := cells_dr hcA rfl hus0 (by rw [← H.out.2.2.1]; exact hkl)
  obtain rfl : x = y := Option.some.inj (hx.symm.trans hy)
  obtain ⟨uA, uc, hue⟩ := InL.slice (hcE k x u0 hx hu0)
  subst hue
  obtain ⟨rn, hrn⟩ : ∃ k, k = x.rus.length := ⟨_, rfl⟩
  rw [← hrn] at g2 hwx
  have hrni : rn ≤ 1000000 := by rw [hrn]; exact (H.out.2.1.rus x (List.mem_of_getElem? hx)).1
  have HX := Lib.hid (And.intro hx (And.intro hrn hwx))
  clear hx hrn hwx hcA hcE hus0 hy hu0 g0 g1
  by_cases h2 : r < 0
  · have hw := Lib.hid (HX.out.2.2.trans (if_pos (.inl h2)))
    go_enter Tryz.func18, Tryz.ntmps18
    go_wp2_with (fail)
    have zb : Below w.heap.size w ((w.alloc (.cells #[.int .i64 c.cap, .int .i64 c.lim, .slice (some ⟨ab, ao, none⟩) nd dc, .slice rA nr rc] 27)).alloc (.cells #[.int .i64 0, .int .i64 0, .slice none 0 0, .slice none 0 0] 27)) := gr_alloc (gr_alloc (Below.refl _ _) _) _
    have zr : Blk ((w.alloc (.cells #[.int .i64 c.cap, .int .i64 c.lim, .slice (some ⟨ab, ao, none⟩) nd dc, .slice rA nr rc] 27)).alloc (.cells #[.int .i64 0, .int .i64 0, .slice none 0 0, .slice none 0 0] 27)) (w.heap.size + 1) 27 #[.int .i64 0, .int .i64 0, .slice none 0 0, .slice none 0 0] := blk_at (by simp)
    generalize ((w.alloc (.cells #[.int .i64 c.cap, .int .i64 c.lim, .slice (some ⟨ab, ao, none⟩) nd dc, .slice rA nr rc] 27)).alloc (.cells #[.int .i64 0, .int .i64 0, .slice none 0 0, .slice none 0 0] 27)) = Z at zb zr ⊢
    have r0 : Z.cell? ⟨w.heap.size + 1, 0, none⟩ = some (.int .i64 0) := zr.cell' (i := 0) rfl
    have r1 : Z.cell? ⟨w.heap.size + 1, 1, none⟩ = some (.int .i64 0) := zr.cell' (i := 1) rfl
    have r2 : Z.cell? ⟨w.heap.size + 1, 2, none⟩ = some (.slice none 0 0) := zr.cell' (i := 2) rfl
    have r3 : Z.cell? ⟨w.heap.size + 1, 3, none⟩ = some (.slice none 0 0) := zr.cell' (i := 3) rfl
    refine bodyPost_ret (v := .tuple #[.agg #[.int .i64 0, .int .i64 0, .slice none 0 0, .slice none 0 0], .int .i64 2]) (by simp [results, Tryz.results18, go_sem, r0, r1, r2, r3]) rfl ?_
    rw [HP.out, hw.out]
    exact ⟨_, rfl, CfIn.zero _, zb⟩
  by_cases h3 : (rn : Int) ≤ r
  · have hw := Lib.hid (HX.out.2.2.trans (if_pos (.inr h3)))
    go_enter Tryz.func18, Tryz.ntmps18
    go_wp2_with (fail)
    have zb : Below w.heap.size w ((w.alloc (.cells #[.int .i64 c.cap, .int .i64 c.lim, .slice (some ⟨ab, ao, none⟩) nd dc, .slice rA nr rc] 27)).alloc (.cells #[.int .i64 0, .int .i64 0, .slice none 0 0, .slice none 0 0] 27)) := gr_alloc (gr_alloc (Below.refl _ _) _) _
    have zr : Blk ((w.alloc (.cells #[.int .i64 c.cap, .int .i64 c.lim, .slice (some ⟨ab, ao, none⟩) nd dc, .slice rA nr rc] 27)).alloc (.cells #[.int .i64 0, .int .i64 0, .slice none 0 0, .slice none 0 0] 27)) (w.heap.size + 1) 27 #[.int .i64 0, .int .i64 0, .slice none 0 0, .slice none 0 0] := blk_at (by simp)
    generalize ((w.alloc (.cells #[.int .i64 c.cap, .int .i64 c.lim, .slice (some ⟨ab, ao, none⟩) nd dc, .slice rA nr rc] 27)).alloc (.cells #[.int .i64 0, .int .i64 0, .slice none 0 0, .slice none 0 0] 27)) = Z at zb zr ⊢
    have r0 : Z.cell? ⟨w.heap.size + 1, 0, none⟩ = some (.int .i64 0) := zr.cell' (i := 0) rfl
    have r1 : Z.cell? ⟨w.heap.size + 1, 1, none⟩ = some (.int .i64 0) := zr.cell' (i := 1) rfl
    have r2 : Z.cell? ⟨w.heap.size + 1, 2, none⟩ = some (.slice none 0 0) := zr.cell' (i := 2) rfl
    have r3 : Z.cell? ⟨w.heap.size + 1, 3, none⟩ = some (.slice none 0 0) := zr.cell' (i := 3) rfl
    refine bodyPost_ret (v := .tuple #[.agg #[.int .i64 0, .int .i64 0, .slice none 0 0, .slice none 0 0], .int .i64 2]) (by simp [results, Tryz.results18, go_sem, r0, r1, r2, r3]) rfl ?_
    rw [HP.out, hw.out]
    exact ⟨_, rfl, CfIn.zero _, zb⟩
  obtain ⟨m, rfl⟩ : ∃ m : Nat, r = (m : Int) := ⟨r.toNat, by omega⟩
  have hml : m < rn := by omega
  have hmi : (m : Int) < rn := by omega
  have hwr : IntKind.i64.wrap ((m : Int) + 1) = (m : Int) + 1 := IntWalk.i64_in _ (by omega)
  have hw := Lib.hid (HX.out.2.2.trans (if_neg (by rintro (h | h); exact h2 h; exact h3 h)))
  clear h2 h3
  go_enter Tryz.func18, Tryz.ntmps18
  have hb1 : Below w.heap.size w ((w.alloc (.cells #[.int .i64 c.cap, .int .i64 c.lim, .slice (some ⟨ab, ao, none⟩) nd dc, .slice rA nr rc] 27)).alloc (.cells #[.int .i64 0, .int .i64 0, .slice none 0 0, .slice none 0 0] 27)) := gr_alloc (gr_alloc (Below.refl _ _) _) _
  have k1 : Blk ((w.alloc (.cells #[.int .i64 c.cap, .int .i64 c.lim, .slice (some ⟨ab, ao, none⟩) nd dc, .slice rA nr rc] 27)).alloc (.cells #[.int .i64 0, .int .i64 0, .slice none 0 0, .slice none 0 0] 27)) w.heap.size 27 #[.int .i64 c.cap, .int .i64 c.lim, .slice (some ⟨ab, ao, none⟩) nd dc, .slice rA nr rc] := (Blk.new _ _ _).alloc _
  have k2 : Blk ((w.alloc (.cells #[.int .i64 c.cap, .int .i64 c.lim, .slice (some ⟨ab, ao, none⟩) nd dc, .slice rA nr rc] 27)).alloc (.cells #[.int .i64 0, .int .i64 0, .slice none 0 0, .slice none 0 0] 27)) (w.heap.size + 1) 27 #[.int .i64 0, .int .i64 0, .slice none 0 0, .slice none 0 0] := blk_at (by simp)
  have ho := hown _ hb1
  obtain ⟨b3, hb3⟩ : ∃ b, b = w.heap.size := ⟨_, rfl⟩
  obtain ⟨b6, hb6⟩ : ∃ b, b = w.heap.size + 1 := ⟨_, rfl⟩
  have K := Lib.hid (And.intro hb1 (And.intro k1 (And.intro k2 (And.intro hb3 hb6))))
  clear hb1 k1 k2 hb3 hb6 hown
  go_wp2_with (fail)
  refine ho.mono ?_
  rintro e W2 ⟨d2, r2, rfl, hD, hR, hb2⟩
  clear ho
  have k1 := K.out.2.1.call hb2
  have k2 := K.out.2.2.1.call hb2
  rw [← K.out.2.2.2.2] at k2 ⊢
  rw [← K.out.2.2.2.1] at k1 ⊢
  obtain ⟨us, hU, hE, hA⟩ := hD
  obtain ⟨eA, ec, rfl⟩ := hU.slice
  obtain ⟨sA, sc, rfl⟩ := hR.choose_spec.1.slice
  rw [← H.out.2.2.1] at hU ⊢
  rw [← H.out.2.2.2] at hR ⊢
  have hcap : nd ≤ ec := own_cap hU.2 _ _ _ rfl
  have q0 : W2.cell? ⟨b3, 0, none⟩ = some (.int .i64 c.cap) := k1.cell' (i := 0) rfl
  have q1 : W2.cell? ⟨b3, 1, none⟩ = some (.int .i64 c.lim) := k1.cell' (i := 1) rfl
  have q2 : W2.cell? ⟨b3, 2, none⟩ = some (.slice (some ⟨ab, ao, none⟩) nd dc) := k1.cell' (i := 2) rfl
  have q3 : W2.cell? ⟨b3, 3, none⟩ = some (.slice rA nr rc) := k1.cell' (i := 3) rfl
  have qf0 := k1.frozen 0
  have qf1 := k1.frozen 1
  have qf2 := k1.frozen 2
  have qf3 := k1.frozen 3
  have ql := k1.lt
  have hB2 := gr_call K.out.1 hb2
  have Y := Lib.hid (And.intro k1 (And.intro k2 (And.intro hU (And.intro hE (And.intro hA (And.intro hR hB2))))))
  clear k1 k2 hU hE hA hR hb2 hB2
  go_wp2_with (fail)
  have hB3 : w.heap.size ≤ b3 := Nat.le_of_eq K.out.2.2.2.1.symm
  have zb : Below w.heap.size w ((((W2.setCell ⟨b3, 0, none⟩ (.int .i64 c.cap)).setCell ⟨b3, 1, none⟩ (.int .i64 c.lim)).setCell ⟨b3, 2, none⟩ (.slice eA nd ec)).setCell ⟨b3, 3, none⟩ (.slice sA nr sc)) := (((Y.out.2.2.2.2.2.2.setCell hB3 _).setCell hB3 _).setCell hB3 _).setCell hB3 _
  have z3 : Blk ((((W2.setCell ⟨b3, 0, none⟩ (.int .i64 c.cap)).setCell ⟨b3, 1, none⟩ (.int .i64 c.lim)).setCell ⟨b3, 2, none⟩ (.slice eA nd ec)).setCell ⟨b3, 3, none⟩ (.slice sA nr sc)) b3 27 #[.int .i64 c.cap, .int .i64 c.lim, .slice eA nd ec, .slice sA nr sc] := (((Y.out.1.set_ 0 (.int .i64 c.cap)).set_ 1 (.int .i64 c.lim)).set_ 2 (.slice eA nd ec)).set_ 3 (.slice sA nr sc)
  have zk : ∀ k t cs, Blk W2 k t cs → k ≠ b3 → Blk ((((W2.setCell ⟨b3, 0, none⟩ (.int .i64 c.cap)).setCell ⟨b3, 1, none⟩ (.int .i64 c.lim)).setCell ⟨b3, 2, none⟩ (.slice eA nd ec)).setCell ⟨b3, 3, none⟩ (.slice sA nr sc)) k t cs := fun k t cs hk hn => (((hk.far (p := ⟨b3, 0, none⟩) hn _).far (p := ⟨b3, 1, none⟩) hn _).far (p := ⟨b3, 2, none⟩) hn _).far (p := ⟨b3, 3, none⟩) hn _
  have zs : W2.heap.size = (((((W2.setCell ⟨b3, 0, none⟩ (.int .i64 c.cap)).setCell ⟨b3, 1, none⟩ (.int .i64 c.lim)).setCell ⟨b3, 2, none⟩ (.slice eA nd ec)).setCell ⟨b3, 3, none⟩ (.slice sA nr sc))).heap.size := by simp [World.setCell]
  have hb36 : b6 ≠ b3 := by have h1 := K.out.2.2.2.1; have h2 := K.out.2.2.2.2; omega
  have z6 := zk _ _ _ Y.out.2.1 hb36
  generalize ((((W2.setCell ⟨b3, 0, none⟩ (.int .i64 c.cap)).setCell ⟨b3, 1, none⟩ (.int .i64 c.lim)).setCell ⟨b3, 2, none⟩ (.slice eA nd ec)).setCell ⟨b3, 3, none⟩ (.slice sA nr sc)) = V at zb z3 zk zs z6 ⊢
  have hnc : ∀ k t cs, Blk W2 k t cs → t ≠ 27 → Blk V k t cs := fun k t cs hk ht => zk k t cs hk (hk.ne_ Y.out.1 ht)
  have hU : OwnU 48 3 drC V _ (.slice eA nd ec) c.dirs us := Y.out.2.2.1.keep fun k cs _ hk => hnc k _ cs hk (by decide)
  have hE : Each (fun x u => RusMem V _ V.heap.size u x.rus) c.dirs us := Y.out.2.2.2.1.imp fun x u _ h => by
    rw [← zs]
    exact h.keep (fun k cs _ hk => hnc k _ cs hk (by decide)) (fun k cs _ hk => hnc k _ cs hk (by decide))
  have hR : RosMem V _ (.slice sA nr sc) c.ros := Y.out.2.2.2.2.2.1.keep (fun k cs _ hk => hnc k _ cs hk (by decide)) (fun k cs hk => hnc k _ cs hk (by decide))
  have hA := Y.out.2.2.2.2.1
  clear q0 q1 q2 q3 qf0 qf1 qf2 qf3 ql zk hnc zs
  have hwB : w.heap.size ≤ (((w.alloc (.cells #[.int .i64 c.cap, .int .i64 c.lim, .slice (some ⟨ab, ao, none⟩) nd dc, .slice rA nr rc] 27)).alloc (.cells #[.int .i64 0, .int .i64 0, .slice none 0 0, .slice none 0 0] 27))).heap.size := by simp; omega
  generalize (((w.alloc (.cells #[.int .i64 c.cap, .int .i64 c.lim, .slice (some ⟨ab, ao, none⟩) nd dc, .slice rA nr rc] 27)).alloc (.cells #[.int .i64 0, .int .i64 0, .slice none 0 0, .slice none 0 0] 27))).heap.size = B at hU hE hR hwB
  obtain ⟨u, hu⟩ : ∃ u, us[k]? = some u := ⟨_, List.getElem?_eq_getElem (by have h1 := hU.1; have h2 := H.out.2.2.1; omega)⟩
  obtain ⟨vs, hv, hvE⟩ := hE k x u HX.out.1 hu
  obtain ⟨gr, cap, hue, _, hgl⟩ := hv.form (by have := HX.out.2.1; omega)
  rw [← HX.out.2.1] at hue
  subst hue
  obtain ⟨gd, dcap, hde, hgdB, _⟩ := hU.form (by have := H.out.2.2.1; omega)
  have hee : eA = some ⟨gd, 0, none⟩ := by injection hde
  subst hee
  clear hde
  have hdl0 := fun V' (h : OwnU 66 14 ruC V' B (.slice (some ⟨gr, 0, none⟩) rn cap) x.rus vs) => delete_code x.rus vs B gr rn cap m (m + 1) V' h HX.out.2.1 (by omega) (by omega) hrni (hvE.imp fun y q _ h => by
    obtain ⟨A, c, e⟩ := h.1.choose_spec.slice
    rw [e]
    exact rule_one y _ _ _)
  have hdl : ∀ V', OwnU 66 14 ruC V' B (.slice (some ⟨gr, 0, none⟩) rn cap) x.rus vs → Calls Tryz.prog 52 #[.slice (some ⟨gr, 0, none⟩) rn cap, .int .i64 (m : Int), .int .i64 ((m : Int) + 1)] V' fun e W' => e = .returned (.slice (some ⟨gr, 0, none⟩) (m + (rn - (m + 1))) cap) ∧ OwnU 66 14 ruC W' B (.slice (some ⟨gr, 0, none⟩) (m + (rn - (m + 1))) cap) (x.rus.take m ++ x.rus.drop (m + 1)) (vs.take m ++ vs.drop (m + 1)) ∧ V'.grownBy W' (some gr) := hdl0
  clear hdl0
  obtain ⟨cr, hgr⟩ : ∃ q, Blk V gr 66 q := by
    rcases hv.2.2 with ⟨e, _⟩ | ⟨g', cap', cur, e, _, hh, _⟩
    · cases e
    · cases e; exact ⟨cur, hh⟩
  obtain ⟨cd, hgd⟩ : ∃ q, Blk V gd 48 q := by
    rcases hU.2.2 with ⟨e, _⟩ | ⟨g', cap', cur, e, _, hh, _⟩
    · cases e
    · cases e; exact ⟨cur, hh⟩
  have hdr : gd ≠ gr := hgd.ne_ hgr (by decide)
  have h3r : b3 ≠ gr := z3.ne_ hgr (by decide)
  have h6r : b6 ≠ gr := z6.ne_ hgr (by decide)
  have h3d : b3 ≠ gd := z3.ne_ hgd (by decide)
  have h6d : b6 ≠ gd := z6.ne_ hgd (by decide)
  have hrn := HX.out.2.1
  have v2 : V.cell? ⟨b3, 2, none⟩ = some (.slice (some ⟨gd, 0, none⟩) nd ec) := z3.cell' (i := 2) rfl
  have vl := z3.lt
  have e2 : V.cell? ⟨gd, k * 3 + 2, none⟩ = some (.slice (some ⟨gr, 0, none⟩) rn cap) := hU.cellAt drC_len HX.out.1 hu (by decide) rfl
  have gdl := hgd.lt
  have hBr : w.heap.size ≤ gr := Nat.le_trans hwB (hv.block (k := gr) rfl).1
  have hBd : w.heap.size ≤ gd := Nat.le_trans hwB hgdB
  obtain ⟨n', hn'⟩ : ∃ q, q = m + (rn - (m + 1)) := ⟨_, rfl⟩
  rw [← hn'] at hdl
  have ecd : cd[k * 3 + 2]? = some (.slice (some ⟨gr, 0, none⟩) rn cap) := (show V.cell? ⟨gd, k * 3 + 2, none⟩ = cd[k * 3 + 2]? by rw [World.cell?]; simp [show V.heap[gd]? = _ from hgd]).symm.trans e2
  have M := Lib.hid (And.intro hU (And.intro hE (And.intro hA (And.intro hu (And.intro hv (And.intro hvE (And.intro hR (And.intro zb (And.intro z3 (And.intro z6 (And.intro hBr hBd)))))))))))
  have MD := Lib.hid (And.intro hgr (And.intro hgd ecd))
  clear ecd hv hU hE hA hu hvE hR zb hgr hgd hBr hBd hn' hrn hgdB hgl
  go_wp2_with (fail)
  go_region_with (first
    | (go_at_call 52; refine (hdl _ (M.out.2.2.2.2.1.below (gr_drew (Below.refl _ _)))).mono ?_; rintro e W4 ⟨rfl, hw4, hg4⟩
       have hg4' : V.grownBy W4 (some gr) := only_trans (only_drew (only_refl _ _)) hg4
       have y3 := M.out.2.2.2.2.2.2.2.2.1.grown hg4' (by simpa using h3r)
       have yd := MD.out.2.1.grown hg4' (by simpa using hdr)
       have x2 : W4.cell? ⟨b3, 2, none⟩ = some (.slice (some ⟨gd, 0, none⟩) nd ec) := y3.cell' (i := 2) rfl
       have xl := y3.lt
       have xd : W4.cell? ⟨gd, k * 3 + 2, none⟩ = some (.slice (some ⟨gr, 0, none⟩) rn cap) := yd.cell' MD.out.2.2
       have xdf := yd.frozen (k * 3 + 2)
       have xdl := yd.lt))
  all_goals
    obtain ⟨us5, hU5, hE5⟩ := cut_in M.out.1 M.out.2.1 M.out.2.2.1 HX.out.1 M.out.2.2.2.1 M.out.2.2.2.2.1 M.out.2.2.2.2.2.1 hw4 hg4'
    have k5 : ∀ q t cs, Blk V q t cs → q ≠ gr → q ≠ gd → Blk (W4.setCell ⟨gd, k * 3 + 2, none⟩ (.slice (some ⟨gr, 0, none⟩) n' cap)) q t cs := fun q t cs hb h1 h2 => (hb.grown hg4' (by simpa using h1)).far h2 _
    have z35 := k5 _ _ _ M.out.2.2.2.2.2.2.2.2.1 h3r h3d
    have z65 := k5 _ _ _ M.out.2.2.2.2.2.2.2.2.2.1 h6r h6d
    have hR5 : RosMem (W4.setCell ⟨gd, k * 3 + 2, none⟩ (.slice (some ⟨gr, 0, none⟩) n' cap)) B (.slice sA nr sc) c.ros := M.out.2.2.2.2.2.2.1.keep (fun q cs _ hb => k5 q _ cs hb (hb.ne_ MD.out.1 (by decide)) (hb.ne_ MD.out.2.1 (by decide))) (fun q cs hb => k5 q _ cs hb (hb.ne_ MD.out.1 (by decide)) (hb.ne_ MD.out.2.1 (by decide)))
    have zb5 : Below w.heap.size w (W4.setCell ⟨gd, k * 3 + 2, none⟩ (.slice (some ⟨gr, 0, none⟩) n' cap)) := (M.out.2.2.2.2.2.2.2.1.grown hg4' M.out.2.2.2.2.2.2.2.1.size (fun q hq => by cases hq; exact M.out.2.2.2.2.2.2.2.2.2.2.1)).setCell M.out.2.2.2.2.2.2.2.2.2.2.2 _
    clear k5 hw4 hg4' hg4 y3 yd x2 xl xd xdf xdl hdl v2 vl e2 gdl
    generalize (W4.setCell ⟨gd, k * 3 + 2, none⟩ (.slice (some ⟨gr, 0, none⟩) n' cap)) = V5 at hU5 hE5 z35 z65 hR5 zb5 ⊢
    have N := Lib.hid (And.intro z35 (And.intro z65 (And.intro zb5 (And.intro hR5 (And.intro hU5 hE5)))))
    clear z35 z65 zb5 hR5 hU5 hE5
    have u0 : V5.cell? ⟨b3, 0, none⟩ = some (.int .i64 c.cap) := N.out.1.cell' (i := 0) rfl
    have u1 : V5.cell? ⟨b3, 1, none⟩ = some (.int .i64 c.lim) := N.out.1.cell' (i := 1) rfl
    have u2 : V5.cell? ⟨b3, 2, none⟩ = some (.slice (some ⟨gd, 0, none⟩) nd ec) := N.out.1.cell' (i := 2) rfl
    have u3 : V5.cell? ⟨b3, 3, none⟩ = some (.slice sA nr sc) := N.out.1.cell' (i := 3) rfl
    have ul := N.out.1.lt
    have t0 : V5.cell? ⟨b6, 0, none⟩ = some (.int .i64 0) := N.out.2.1.cell' (i := 0) rfl
    have t1 : V5.cell? ⟨b6, 1, none⟩ = some (.int .i64 0) := N.out.2.1.cell' (i := 1) rfl
    have t2 : V5.cell? ⟨b6, 2, none⟩ = some (.slice none 0 0) := N.out.2.1.cell' (i := 2) rfl
    have t3 : V5.cell? ⟨b6, 3, none⟩ = some (.slice none 0 0) := N.out.2.1.cell' (i := 3) rfl
    have tf0 := N.out.2.1.frozen 0
    have tf1 := N.out.2.1.frozen 1
    have tf2 := N.out.2.1.frozen 2
    have tf3 := N.out.2.1.frozen 3
    have tl := N.out.2.1.lt
    go_wp2_with (fail)
    have hB6 : w.heap.size ≤ b6 := by have := K.out.2.2.2.2; omega
    have zb : Below w.heap.size w ((((V5.setCell ⟨b6, 0, none⟩ (.int .i64 c.cap)).setCell ⟨b6, 1, none⟩ (.int .i64 c.lim)).setCell ⟨b6, 2, none⟩ (.slice (some ⟨gd, 0, none⟩) nd ec)).setCell ⟨b6, 3, none⟩ (.slice sA nr sc)) := (((N.out.2.2.1.setCell hB6 _).setCell hB6 _).setCell hB6 _).setCell hB6 _
    have zr : Blk ((((V5.setCell ⟨b6, 0, none⟩ (.int .i64 c.cap)).setCell ⟨b6, 1, none⟩ (.int .i64 c.lim)).setCell ⟨b6, 2, none⟩ (.slice (some ⟨gd, 0, none⟩) nd ec)).setCell ⟨b6, 3, none⟩ (.slice sA nr sc)) b6 27 #[.int .i64 c.cap, .int .i64 c.lim, .slice (some ⟨gd, 0, none⟩) nd ec, .slice sA nr sc] := (((N.out.2.1.set_ 0 (.int .i64 c.cap)).set_ 1 (.int .i64 c.lim)).set_ 2 (.slice (some ⟨gd, 0, none⟩) nd ec)).set_ 3 (.slice sA nr sc)
    have zk : ∀ k t cs, Blk V5 k t cs → t ≠ 27 → Blk ((((V5.setCell ⟨b6, 0, none⟩ (.int .i64 c.cap)).setCell ⟨b6, 1, none⟩ (.int .i64 c.lim)).setCell ⟨b6, 2, none⟩ (.slice (some ⟨gd, 0, none⟩) nd ec)).setCell ⟨b6, 3, none⟩ (.slice sA nr sc)) k t cs := fun k t cs hk ht => (((hk.far (p := ⟨b6, 0, none⟩) (hk.ne_ N.out.2.1 ht) _).far (p := ⟨b6, 1, none⟩) (hk.ne_ N.out.2.1 ht) _).far (p := ⟨b6, 2, none⟩) (hk.ne_ N.out.2.1 ht) _).far (p := ⟨b6, 3, none⟩) (hk.ne_ N.out.2.1 ht) _
    generalize ((((V5.setCell ⟨b6, 0, none⟩ (.int .i64 c.cap)).setCell ⟨b6, 1, none⟩ (.int .i64 c.lim)).setCell ⟨b6, 2, none⟩ (.slice (some ⟨gd, 0, none⟩) nd ec)).setCell ⟨b6, 3, none⟩ (.slice sA nr sc)) = Z at zb zr zk ⊢
    have r0 : Z.cell? ⟨b6, 0, none⟩ = some (.int .i64 c.cap) := zr.cell' (i := 0) rfl
    have r1 : Z.cell? ⟨b6, 1, none⟩ = some (.int .i64 c.lim) := zr.cell' (i := 1) rfl
    have r2 : Z.cell? ⟨b6, 2, none⟩ = some (.slice (some ⟨gd, 0, none⟩) nd ec) := zr.cell' (i := 2) rfl
    have r3 : Z.cell? ⟨b6, 3, none⟩ = some (.slice sA nr sc) := zr.cell' (i := 3) rfl
    refine bodyPost_ret (v := .tuple #[.agg #[.int .i64 c.cap, .int .i64 c.lim, .slice (some ⟨gd, 0, none⟩) nd ec, .slice sA nr sc], .int .i64 0]) (by simp [results, Tryz.results18, go_sem, r0, r1, r2, r3]) rfl ?_
    rw [HP.out, hw.out, Int.toNat_natCast]
    refine ⟨_, rfl, ⟨_, _, rfl, (N.out.2.2.2.2.1.keep fun k cs _ hk => zk k _ cs hk (by decide)).in_ drC_len (by decide) (inner := fun W x u => RulesIn W u x.rus) (N.out.2.2.2.2.2.imp fun x u _ h => (h.keep (fun k cs _ hk => zk k _ cs hk (by decide)) (fun k cs _ hk => zk k _ cs hk (by decide))).in_), RosMem.in_ (N.out.2.2.2.1.keep (fun k cs _ hk => zk k _ cs hk (by decide)) (fun k cs hk => zk k _ cs hk (by decide)))⟩, zb⟩
set_option maxRecDepth 100000 in
set_option maxHeartbeats 8000000 in
theorem only_bad (c : Cf) (hz : CfSz c) (d : Int) (hbad : d < 0 ∨ (c.dirs.length : Int) ≤ d) (v : Value) (w : World) (hv : CfIn w v c) : Calls Tryz.prog 15 #[v, .int .i64 d] w (CutP w (onlP c d)) := by
  have hvc := hv
  obtain ⟨d0, r0, rfl, hd, hr⟩ := hv
  obtain ⟨dA, dc, rfl⟩ := InL.slice hd
  obtain ⟨rA, rc, rfl⟩ := InL.slice hr
  have hown := fun W (hW : Below w.heap.size w W) => own_code c hz _ W (hvc.below hW)
  obtain ⟨nd, hnd⟩ : ∃ k, k = c.dirs.length := ⟨_, rfl⟩
  obtain ⟨nr, hnr⟩ : ∃ k, k = c.ros.length := ⟨_, rfl⟩
  rw [← hnd, ← hnr] at hown ⊢
  rw [← hnd] at hbad
  have hndi : nd ≤ 1000000 := by rw [hnd]; exact hz.dirs
  obtain ⟨post, hpost⟩ : ∃ p, p = CutP w (onlP c d) := ⟨_, rfl⟩
  rw [← hpost]
  have HP := Lib.hid hpost
  have H := Lib.hid (And.intro hd (And.intro hz (And.intro hnd hnr)))
  clear hd hr hz hvc hnd hnr hpost
  by_cases h0 : d < 0
  · have hw := Lib.hid (onl_bad (c := c) (d := d) (.inl h0))
    go_enter Tryz.func15, Tryz.ntmps15
    go_wp2_with (fail)
    have zb : Below w.heap.size w ((w.alloc (.cells #[.int .i64 c.cap, .int .i64 c.lim, .slice dA nd dc, .slice rA nr rc] 27)).alloc (.cells #[.int .i64 0, .int .i64 0, .slice none 0 0, .slice none 0 0] 27)) := gr_alloc (gr_alloc (Below.refl _ _) _) _
    have zr : Blk ((w.alloc (.cells #[.int .i64 c.cap, .int .i64 c.lim, .slice dA nd dc, .slice rA nr rc] 27)).alloc (.cells #[.int .i64 0, .int .i64 0, .slice none 0 0, .slice none 0 0] 27)) (w.heap.size + 1) 27 #[.int .i64 0, .int .i64 0, .slice none 0 0, .slice none 0 0] := blk_at (by simp)
    generalize ((w.alloc (.cells #[.int .i64 c.cap, .int .i64 c.lim, .slice dA nd dc, .slice rA nr rc] 27)).alloc (.cells #[.int .i64 0, .int .i64 0, .slice none 0 0, .slice none 0 0] 27)) = Z at zb zr ⊢
    have r0 : Z.cell? ⟨w.heap.size + 1, 0, none⟩ = some (.int .i64 0) := zr.cell' (i := 0) rfl
    have r1 : Z.cell? ⟨w.heap.size + 1, 1, none⟩ = some (.int .i64 0) := zr.cell' (i := 1) rfl
    have r2 : Z.cell? ⟨w.heap.size + 1, 2, none⟩ = some (.slice none 0 0) := zr.cell' (i := 2) rfl
    have r3 : Z.cell? ⟨w.heap.size + 1, 3, none⟩ = some (.slice none 0 0) := zr.cell' (i := 3) rfl
    refine bodyPost_ret (v := .tuple #[.agg #[.int .i64 0, .int .i64 0, .slice none 0 0, .slice none 0 0], .int .i64 2]) (by simp [results, Tryz.results15, go_sem, r0, r1, r2, r3]) rfl ?_
    rw [HP.out, hw.out]
    exact ⟨_, rfl, CfIn.zero _, zb⟩
  by_cases h1 : (nd : Int) ≤ d
  · have hw := Lib.hid (onl_bad (c := c) (d := d) (.inr (by rw [← H.out.2.2.1]; exact h1)))
    go_enter Tryz.func15, Tryz.ntmps15
    go_wp2_with (fail)
    have zb : Below w.heap.size w ((w.alloc (.cells #[.int .i64 c.cap, .int .i64 c.lim, .slice dA nd dc, .slice rA nr rc] 27)).alloc (.cells #[.int .i64 0, .int .i64 0, .slice none 0 0, .slice none 0 0] 27)) := gr_alloc (gr_alloc (Below.refl _ _) _) _
    have zr : Blk ((w.alloc (.cells #[.int .i64 c.cap, .int .i64 c.lim, .slice dA nd dc, .slice rA nr rc] 27)).alloc (.cells #[.int .i64 0, .int .i64 0, .slice none 0 0, .slice none 0 0] 27)) (w.heap.size + 1) 27 #[.int .i64 0, .int .i64 0, .slice none 0 0, .slice none 0 0] := blk_at (by simp)
    generalize ((w.alloc (.cells #[.int .i64 c.cap, .int .i64 c.lim, .slice dA nd dc, .slice rA nr rc] 27)).alloc (.cells #[.int .i64 0, .int .i64 0, .slice none 0 0, .slice none 0 0] 27)) = Z at zb zr ⊢
    have r0 : Z.cell? ⟨w.heap.size + 1, 0, none⟩ = some (.int .i64 0) := zr.cell' (i := 0) rfl
    have r1 : Z.cell? ⟨w.heap.size + 1, 1, none⟩ = some (.int .i64 0) := zr.cell' (i := 1) rfl
    have r2 : Z.cell? ⟨w.heap.size + 1, 2, none⟩ = some (.slice none 0 0) := zr.cell' (i := 2) rfl
    have r3 : Z.cell? ⟨w.heap.size + 1, 3, none⟩ = some (.slice none 0 0) := zr.cell' (i := 3) rfl
    refine bodyPost_ret (v := .tuple #[.agg #[.int .i64 0, .int .i64 0, .slice none 0 0, .slice none 0 0], .int .i64 2]) (by simp [results, Tryz.results15, go_sem, r0, r1, r2, r3]) rfl ?_
    rw [HP.out, hw.out]
    exact ⟨_, rfl, CfIn.zero _, zb⟩
  exact absurd hbad (by omega)
end Go.Proofs.YthpcbaamkeiffaaGreatDoor
namespace Go.Proofs.YthpcbaamkeiffaaGreatDoor
open Go.RowKit Go.Shelf Go.Joins
set_option linter.unusedVariables false
set_option linter.unusedSimpArgs false

def k1Cd : Cd := ⟨⟨#[37, 123, 81, 85, 69, 82, 89, 125]⟩, true, ⟨#[120, 32, 121]⟩, false, true⟩
def k1Ru : Ru := ⟨⟨#[94, 47, 97, 36]⟩, true, [k1Cd], ⟨#[47, 98]⟩, ⟨true, false, false, false, false, false, false, false, 0, 0⟩⟩
def k1Cf : Cf := ⟨9, 5, [⟨⟨#[47]⟩, 0, [k1Ru]⟩], []⟩
def k2Cf : Cf := ⟨9, 5, [shDr], [⟨[], 2, ⟨#[]⟩⟩, ⟨[⟨#[97]⟩, ⟨#[123, 120, 125]⟩], 1, ⟨#[104, 105]⟩⟩]⟩
theorem rows_le {c : Cf} (h : (cfRows c).all (fun r => decide (r.w.length ≤ 100000) && r.w.all (fun d => decide (d.t.size ≤ 100000))) = true) : ∀ r ∈ cfRows c, r.w.length ≤ 100000 ∧ ∀ d ∈ r.w, d.t.size ≤ 100000 := by
  intro r hr
  have := List.all_eq_true.1 h r hr
  rw [Bool.and_eq_true, decide_eq_true_eq, List.all_eq_true] at this
  exact ⟨this.1, fun d hd => of_decide_eq_true (this.2 d hd)⟩
theorem k1_ok : CfOk k1Cf := ⟨by unfold I64; decide, by unfold I64; decide, by decide, by decide, fun d hd => by simp [k1Cf] at hd; subst hd; exact ⟨by unfold I64; decide, by decide, fun r hr => by simp at hr; subst hr; unfold I64; decide, fun r hr => by simp at hr; subst hr; decide⟩, fun r hr => by cases hr⟩
theorem k2_ok : CfOk k2Cf := ⟨by unfold I64; decide, by unfold I64; decide, by decide, by decide, fun d hd => by simp [k2Cf] at hd; subst hd; exact ⟨by unfold I64; decide, by decide, fun r hr => by simp [shDr] at hr; subst hr; unfold I64; decide, fun r hr => by simp [shDr] at hr; subst hr; decide⟩, fun r hr => by simp [k2Cf] at hr; rcases hr with rfl | rfl <;> exact ⟨by unfold I64; decide, by decide⟩⟩
theorem k1_text : cfText k1Cf = (some (⟨#[99, 97, 112, 32, 57, 10, 108, 105, 109, 105, 116, 32, 53, 10, 100, 105, 114, 32, 47, 32, 97, 108, 111, 110, 101, 10, 105, 102, 32, 37, 123, 81, 85, 69, 82, 89, 125, 32, 34, 120, 32, 121, 34, 32, 110, 111, 116, 32, 111, 114, 10, 114, 117, 108, 101, 32, 94, 47, 97, 36, 32, 47, 98, 32, 110, 111, 99, 97, 115, 101, 32, 91, 76, 93, 10]⟩ : ByteArray).data.toList, 0) := by decide +kernel
theorem k2_text : cfText k2Cf = (some (⟨#[99, 97, 112, 32, 57, 10, 108, 105, 109, 105, 116, 32, 53, 10, 100, 105, 114, 32, 47, 32, 97, 108, 111, 110, 101, 10, 114, 117, 108, 101, 32, 94, 47, 97, 36, 32, 47, 98, 32, 91, 76, 93, 10, 114, 111, 117, 116, 101, 32, 47, 32, 101, 99, 104, 111, 32, 34, 34, 10, 114, 111, 117, 116, 101, 32, 47, 97, 47, 123, 120, 125, 32, 102, 105, 120, 101, 100, 32, 104, 105, 10]⟩ : ByteArray).data.toList, 0) := by decide +kernel
theorem k1_code {W : World} (hE : Env W) {v : Value} (hv : CfIn W v k1Cf) : Calls Tryz.prog 10 #[v] W fun e W' => e = .returned (.tuple #[.string ⟨#[99, 97, 112, 32, 57, 10, 108, 105, 109, 105, 116, 32, 53, 10, 100, 105, 114, 32, 47, 32, 97, 108, 111, 110, 101, 10, 105, 102, 32, 37, 123, 81, 85, 69, 82, 89, 125, 32, 34, 120, 32, 121, 34, 32, 110, 111, 116, 32, 111, 114, 10, 114, 117, 108, 101, 32, 94, 47, 97, 36, 32, 47, 98, 32, 110, 111, 99, 97, 115, 101, 32, 91, 76, 93, 10]⟩, .int .i64 0]) ∧ Below W.heap.size W W' := by
  refine (text_code k1Cf k1_ok (by decide +kernel) (rows_le (by decide +kernel)) (fun r hr => by cases hr) v W hv hE.tabs hE.max).mono ?_
  rintro e W' ⟨rfl, hb⟩
  refine ⟨?_, hb⟩
  rw [k1_text]
  rfl
theorem k2_code {W : World} (hE : Env W) {v : Value} (hv : CfIn W v k2Cf) : Calls Tryz.prog 10 #[v] W fun e W' => e = .returned (.tuple #[.string ⟨#[99, 97, 112, 32, 57, 10, 108, 105, 109, 105, 116, 32, 53, 10, 100, 105, 114, 32, 47, 32, 97, 108, 111, 110, 101, 10, 114, 117, 108, 101, 32, 94, 47, 97, 36, 32, 47, 98, 32, 91, 76, 93, 10, 114, 111, 117, 116, 101, 32, 47, 32, 101, 99, 104, 111, 32, 34, 34, 10, 114, 111, 117, 116, 101, 32, 47, 97, 47, 123, 120, 125, 32, 102, 105, 120, 101, 100, 32, 104, 105, 10]⟩, .int .i64 0]) ∧ Below W.heap.size W W' := by
  refine (text_code k2Cf k2_ok (by decide +kernel) (rows_le (by decide +kernel)) (fun r hr => by simp [k2Cf] at hr; rcases hr with rfl | rfl <;> decide +kernel) v W hv hE.tabs hE.max).mono ?_
  rintro e W' ⟨rfl, hb⟩
  refine ⟨?_, hb⟩
  rw [k2_text]
  rfl
theorem kf0 {W : World} (hE : Env W) : Calls Tryz.prog 32 #[.string ⟨#[108, 105, 109, 105, 116, 32, 53]⟩, .int .i64 8, .int .i64 0] W (TrueP W) := law_fails ⟨#[108, 105, 109, 105, 116, 32, 53]⟩ (by decide) 8 0 W hE (by decide +kernel)
theorem kf1 {W : World} (hE : Env W) : Calls Tryz.prog 32 #[.string ⟨#[99, 97, 112, 32, 120, 10, 108, 105, 109, 105, 116, 32, 53]⟩, .int .i64 3, .int .i64 4] W (TrueP W) := law_fails ⟨#[99, 97, 112, 32, 120, 10, 108, 105, 109, 105, 116, 32, 53]⟩ (by decide) 3 4 W hE (by decide +kernel)
theorem kf2 {W : World} (hE : Env W) : Calls Tryz.prog 32 #[.string ⟨#[99, 97, 112, 32, 57, 10, 108, 105, 109, 105, 116, 32, 53, 10, 114, 117, 108, 101, 32, 97, 32, 98]⟩, .int .i64 8, .int .i64 14] W (TrueP W) := law_fails ⟨#[99, 97, 112, 32, 57, 10, 108, 105, 109, 105, 116, 32, 53, 10, 114, 117, 108, 101, 32, 97, 32, 98]⟩ (by decide) 8 14 W hE (by decide +kernel)
theorem kf3 {W : World} (hE : Env W) : Calls Tryz.prog 32 #[.string ⟨#[99, 97, 112, 32, 57, 10, 108, 105, 109, 105, 116, 32, 53, 10, 100, 105, 114, 32, 47, 32, 120]⟩, .int .i64 11, .int .i64 20] W (TrueP W) := law_fails ⟨#[99, 97, 112, 32, 57, 10, 108, 105, 109, 105, 116, 32, 53, 10, 100, 105, 114, 32, 47, 32, 120]⟩ (by decide) 11 20 W hE (by decide +kernel)
theorem kf4 {W : World} (hE : Env W) : Calls Tryz.prog 32 #[.string ⟨#[99, 97, 112, 32, 57, 10, 108, 105, 109, 105, 116, 32, 53, 10, 100, 105, 114, 32, 47, 32, 97, 108, 111, 110, 101, 10, 114, 117, 108, 101, 32, 97, 32, 98, 32, 111, 114]⟩, .int .i64 11, .int .i64 35] W (TrueP W) := law_fails ⟨#[99, 97, 112, 32, 57, 10, 108, 105, 109, 105, 116, 32, 53, 10, 100, 105, 114, 32, 47, 32, 97, 108, 111, 110, 101, 10, 114, 117, 108, 101, 32, 97, 32, 98, 32, 111, 114]⟩ (by decide) 11 35 W hE (by decide +kernel)
theorem kf5 {W : World} (hE : Env W) : Calls Tryz.prog 32 #[.string ⟨#[99, 97, 112, 32, 57, 10, 108, 105, 109, 105, 116, 32, 53, 10, 100, 105, 114, 32, 47, 32, 97, 108, 111, 110, 101, 10, 105, 102, 32, 97, 32, 98]⟩, .int .i64 8, .int .i64 32] W (TrueP W) := law_fails ⟨#[99, 97, 112, 32, 57, 10, 108, 105, 109, 105, 116, 32, 53, 10, 100, 105, 114, 32, 47, 32, 97, 108, 111, 110, 101, 10, 105, 102, 32, 97, 32, 98]⟩ (by decide) 8 32 W hE (by decide +kernel)
theorem kf6 {W : World} (hE : Env W) : Calls Tryz.prog 32 #[.string ⟨#[99, 97, 112, 32, 57, 10, 108, 105, 109, 105, 116, 32, 53, 10, 100, 105, 114, 32, 47, 32, 97, 108, 111, 110, 101, 10, 114, 117, 108, 101, 32, 97, 32, 98, 32, 91, 88, 93]⟩, .int .i64 11, .int .i64 36] W (TrueP W) := law_fails ⟨#[99, 97, 112, 32, 57, 10, 108, 105, 109, 105, 116, 32, 53, 10, 100, 105, 114, 32, 47, 32, 97, 108, 111, 110, 101, 10, 114, 117, 108, 101, 32, 97, 32, 98, 32, 91, 88, 93]⟩ (by decide) 11 36 W hE (by decide +kernel)
theorem ks0 : segsP ⟨#[47, 97, 47, 98]⟩ = some [⟨#[97]⟩, ⟨#[98]⟩] := by decide +kernel
theorem ks1 : segsP ⟨#[47]⟩ = some [] := by decide +kernel
theorem ks2 : segsP ⟨#[47, 97, 47]⟩ = none := by decide +kernel
theorem ks3 : segsP ⟨#[97]⟩ = none := by decide +kernel
end Go.Proofs.YthpcbaamkeiffaaGreatDoor
