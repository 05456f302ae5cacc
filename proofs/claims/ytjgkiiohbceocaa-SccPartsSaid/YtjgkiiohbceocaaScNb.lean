/-
  What scc.made's loop keeps; no condition.
-/
import Derived.Test.YtjgkiiohbceocaaScN
namespace Go.Proofs.Ytjgkiiohbceocaa
open Go.RowKit
set_option linter.unusedVariables false
set_option linter.unusedSimpArgs false

/-- What is known between two rounds of made's loop. -/
structure LpOk (W : World) (B n : Nat) (E : Nat → Nat → Bool) (bL bv bg bl bp : Nat) (V : Nat → Value) (f : Nat → Nat) (left ps : List Nat) (lv vp : Value) : Prop where
  lo : LeftOk n (rea n E) left
  eq : partsR n (rea n E) = ps ++ ordR (rea n E) left.length left
  gr : Blk W bg 69 #[.pointer (some ⟨bl, 0, none⟩), .int .i64 (n : Int), vp, .slice (some ⟨bp, 0, none⟩) n n]
  ln : Blk W bl 79 (lnkC E (rea n E))
  pt : Blk W bp 3 (numC n f)
  var : Blk W bv 64 #[.pointer (some ⟨bg, 0, none⟩)]
  lvr : Blk W bL 41 #[lv]
  lrow : W.ownsRow B 25 1 lv left.length (left.map V)
  prow : W.ownsRow B 25 1 vp ps.length (ps.map V)
  ne : ∀ g, lv.ownBlock = some g → vp.ownBlock ≠ some g
  inn : ∀ r, r ∈ roots n (rea n E) → OwnN W B (V r) (mem_ n (rea n E) r)
  lt : bp < B
section
variable {W W' : World} {B n : Nat} {E : Nat → Nat → Bool} {bL bv bg bl bp : Nat} {V : Nat → Value} {f : Nat → Nat} {left ps : List Nat} {lv vp : Value}
theorem LpOk.below (h : LpOk W B n E bL bv bg bl bp V f left ps lv vp) (hb : Below W.heap.size W W') : LpOk W' B n E bL bv bg bl bp V f left ps lv vp :=
  ⟨h.lo, h.eq, h.gr.call hb, h.ln.call hb, h.pt.call hb, h.var.call hb, h.lvr.call hb, own_below h.lrow hb (Nat.le_refl _), own_below h.prow hb (Nat.le_refl _), h.ne, fun r hr => own_below (h.inn r hr) hb (Nat.le_refl _), h.lt⟩
theorem LpOk.drew (h : LpOk W B n E bL bv bg bl bp V f left ps lv vp) : LpOk W.drew B n E bL bv bg bl bp V f left ps lv vp :=
  ⟨h.lo, h.eq, h.gr, h.ln, h.pt, h.var, h.lvr, h.lrow, h.prow, h.ne, h.inn, h.lt⟩
theorem LpOk.setPt (h : LpOk W B n E bL bv bg bl bp V f left ps lv vp) {f' : Nat → Nat} {x y : Nat} (hx : x < n) (hy : f' x = y) (hf : ∀ j, j < n → j ≠ x → f' j = f j) :
    LpOk (W.setCell ⟨bp, x, none⟩ (.int .i64 (y : Int))) B n E bL bv bg bl bp V f' left ps lv vp :=
  ⟨h.lo, h.eq, h.gr.far (h.gr.ne_ h.pt (by decide)) _, h.ln.far (h.ln.ne_ h.pt (by decide)) _, by rw [← numC_set (f := f) hx hy hf]; exact h.pt.set_ _ _, h.var.far (h.var.ne_ h.pt (by decide)) _, h.lvr.far (h.lvr.ne_ h.pt (by decide)) _,
    own_setCell h.lrow h.pt (by decide) _, own_setCell h.prow h.pt (by decide) _, h.ne, fun r hr => own_blks (h.inn r hr) (fun k cs hk hb => hb.far (show k ≠ bp by have := h.lt; omega) _), h.lt⟩
/-- The list that is left, as a row of a block. -/
theorem LpOk.row (h : LpOk W B n E bL bv bg bl bp V f left ps lv vp) (hne : left ≠ []) : ∃ gl cap cur, lv = .slice (some ⟨gl, 0, none⟩) left.length cap ∧ B ≤ gl ∧ Blk W gl 25 cur ∧ left.length ≤ cap ∧ cap ≤ maxLen ∧ cur.size = cap ∧ cur.toList.take left.length = left.map V := by
  rcases h.lrow.2 with ⟨_, h0⟩ | ⟨g, cap, cur, h1, h2, h3, h4, h5, h6, h7⟩
  · exact absurd (List.length_eq_zero_iff.1 h0) hne
  · exact ⟨g, cap, cur, h1, h2, h3, h4, h5, by omega, by rw [← h7]; simp⟩
theorem LpOk.heads (h : LpOk W B n E bL bv bg bl bp V f left ps lv vp) : HdOk W (left.map V) left :=
  ⟨by rw [List.length_map], fun k u r hu hr => by
    rw [List.getElem?_map, hr] at hu
    simp only [Option.map_some, Option.some.injEq] at hu
    subst hu
    have hm := List.mem_of_getElem? hr
    have hrt := h.lo.root r hm
    have hlt := h.lo.lt r hm
    obtain ⟨t, ht⟩ := mem_head hlt hrt
    have hin := h.inn r (mem_roots.2 ⟨hlt, hrt⟩)
    obtain ⟨g, cap, h1, h2, h3, h4, _, h5⟩ := own_cell hin (i := 0) (u := .int .i64 (r : Int)) (by rw [ht]; rfl)
    exact ⟨g, _, cap, h1, h5, h3, h4⟩⟩
/-- The components that were found do not hold a node of one that is left. -/
theorem LpOk.apart (h : LpOk W B n E bL bv bg bl bp V f left ps lv vp) (ht : Trans' (rea n E)) {r k : Nat} (hr : r ∈ left) (hk : tog (rea n E) r k = true) : ∀ s ∈ ps, tog (rea n E) s k = false := by
  intro s hs
  cases e : tog (rea n E) s k with
  | false => rfl
  | true =>
    have h1 := tog_trans ht e (tog_symm hk)
    have hp := partsR_topo ht (n := n)
    rw [h.eq] at hp
    have h2 := (List.pairwise_append.1 hp).2.2 s hs r ((ordR_mem ht _ _ h.lo (Nat.le_refl _) r).2 hr)
    have h3 := (partsR_mem ht (n := n)).1 (by rw [h.eq]; exact List.mem_append_left _ hs)
    exact absurd (root_one h3.2 (h.lo.root r hr) h1) h2.1
end
/-- What the nodes of the component have got so far. -/
def pfJ (T : Nat → Nat → Bool) (ps m : List Nat) (j k : Nat) : Nat := if k ∈ m.take j then ps.length else pf T ps k
theorem pfJ_zero (T : Nat → Nat → Bool) (ps m : List Nat) (k : Nat) : pfJ T ps m 0 k = pf T ps k := by unfold pfJ; rw [if_neg (by simp)]
theorem pfJ_set {T : Nat → Nat → Bool} {ps m : List Nat} {j x : Nat} (hx : m[j]? = some x) : pfJ T ps m (j + 1) x = ps.length := by
  unfold pfJ
  rw [List.take_add_one, hx, if_pos (by simp)]
theorem pfJ_far {T : Nat → Nat → Bool} {ps m : List Nat} {j x k : Nat} (hx : m[j]? = some x) (hk : k ≠ x) : pfJ T ps m (j + 1) k = pfJ T ps m j k := by
  unfold pfJ
  rw [List.take_add_one, hx]
  by_cases h : k ∈ m.take j
  · rw [if_pos h, if_pos (by simp [h])]
  · rw [if_neg h, if_neg (by simp [h, hk])]
theorem pfJ_end {n : Nat} {T : Nat → Nat → Bool} {ps : List Nat} {r k : Nat} (hk : k < n) (hno : ∀ k, tog T r k = true → ∀ s ∈ ps, tog T s k = false) : pf T (ps ++ [r]) k = pfJ T ps (mem_ n T r) (mem_ n T r).length k := by
  unfold pfJ
  rw [List.take_length]
  cases h : tog T r k with
  | true =>
    rw [if_pos (mem_mem.2 ⟨hk, h⟩)]
    exact pf_in (hno k h) h
  | false =>
    rw [if_neg (fun hm => by rw [(mem_mem.1 hm).2] at h; cases h)]
    exact pf_out h
theorem mem_len (n : Nat) (T : Nat → Nat → Bool) (r : Nat) : (mem_ n T r).length ≤ n := by
  unfold mem_
  exact Nat.le_trans (List.length_filter_le _ _) (by simp)
theorem inn_map {n : Nat} {T : Nat → Nat → Bool} {W : World} {B : Nat} : ∀ {l : List Nat} {vs : List Value}, l.Nodup → InnN W B (l.map (mem_ n T)) vs → ∃ V : Nat → Value, vs = l.map V ∧ (∀ r ∈ l, OwnN W B (V r) (mem_ n T r)) ∧ ∀ r, (V r).oneCell' = true
  | [], [], _, _ => ⟨fun _ => .slice none 0 0, rfl, ⟨fun r (h : r ∈ ([] : List Nat)) => absurd h (List.not_mem_nil), fun _ => rfl⟩⟩
  | a :: l, v :: vs, hn, h => by
    rw [List.nodup_cons] at hn
    obtain ⟨V, h1, h2, h3⟩ := inn_map hn.2 h.2
    refine ⟨fun r => if r = a then v else V r, ?_, ?_, ?_⟩
    · rw [List.map_cons, if_pos rfl]
      congr 1
      rw [h1]
      refine List.map_congr_left fun r hr => ?_
      rw [if_neg (fun e => by subst e; exact hn.1 hr)]
    · intro r hr
      show OwnN W B (if r = a then v else V r) (mem_ n T r)
      by_cases e : r = a
      · subst e
        rw [if_pos rfl]
        exact h.1
      · rw [if_neg e]
        rcases List.mem_cons.1 hr with h' | h'
        · exact absurd h' e
        · exact h2 r h'
    · intro r
      show (if r = a then v else V r).oneCell' = true
      split
      · exact own_one h.1
      · exact h3 r
theorem inn_of {n : Nat} {T : Nat → Nat → Bool} {W : World} {B : Nat} {V : Nat → Value} : ∀ {l : List Nat}, (∀ r ∈ l, OwnN W B (V r) (mem_ n T r)) → InnN W B (l.map (mem_ n T)) (l.map V)
  | [], _ => trivial
  | a :: l, h => ⟨h a (by simp), inn_of fun r hr => h r (by simp [hr])⟩
section
variable {W W' : World} {B n : Nat} {E : Nat → Nat → Bool} {bL bv bg bl bp : Nat} {V : Nat → Value} {f : Nat → Nat} {left ps : List Nat} {lv vp : Value}
theorem LpOk.roots_of (h : LpOk W B n E bL bv bg bl bp V f left ps lv vp) (ht : Trans' (rea n E)) {r : Nat} (hr : r ∈ ps ∨ r ∈ left) : r ∈ roots n (rea n E) := by
  have : r ∈ partsR n (rea n E) := by
    rw [h.eq]
    rcases hr with hr | hr
    · exact List.mem_append_left _ hr
    · exact List.mem_append_right _ ((ordR_mem ht _ _ h.lo (Nat.le_refl _) r).2 hr)
  exact mem_roots.2 ((partsR_mem ht).1 this)
/-- When nothing is left. -/
theorem LpOk.ends (h : LpOk W B n E bL bv bg bl bp V f [] ps lv vp) (ht : Trans' (rea n E)) {B' : Nat} (hB : B' ≤ B) : OwnLL W B' vp (partsV n (rea n E)) ∧ partsR n (rea n E) = ps := by
  have e : partsR n (rea n E) = ps := by rw [h.eq]; exact List.append_nil _
  refine ⟨⟨ps.map V, ?_, ?_⟩, e⟩
  · unfold partsV
    rw [e, List.length_map]
    exact own_weaken h.prow hB
  · unfold partsV
    rw [e]
    exact inn_of fun r hr => own_weaken (h.inn r (h.roots_of ht (.inl hr))) hB
/-- The cells of the row that is left. -/
theorem row_cellsV {gl : Nat} {cur : Array Value} {len : Nat} (hgl : Blk W gl 25 cur) (htk : cur.toList.take len = left.map V) (hlen : len = left.length) (k : Nat) (u : Value) (hu : (left.map V)[k]? = some u) : W.cell? ⟨gl, k, none⟩ = some u := by
  rw [hgl.cell]
  have hk := (List.getElem?_eq_some_iff.1 hu).1
  rw [List.length_map] at hk
  rw [← htk, List.getElem?_take, if_pos (by omega)] at hu
  simpa using hu
/-- A component's list, as a row of a block. -/
theorem LpOk.comp (h : LpOk W B n E bL bv bg bl bp V f left ps lv vp) {r : Nat} (hr : r ∈ roots n (rea n E)) : ∃ gr cap, V r = .slice (some ⟨gr, 0, none⟩) (mem_ n (rea n E) r).length cap ∧ B ≤ gr ∧ gr < W.heap.size ∧ ∀ (j x : Nat), (mem_ n (rea n E) r)[j]? = some x → W.cell? ⟨gr, j, none⟩ = some (.int .i64 (x : Int)) := by
  obtain ⟨h1, h2⟩ := mem_roots.1 hr
  obtain ⟨t, ht⟩ := mem_head h1 h2
  have hin := h.inn r hr
  rcases hin.2 with ⟨_, h0⟩ | ⟨g, cap, cur, e1, e2, e3, _, _, _, e7⟩
  · rw [ht] at h0; simp at h0
  · refine ⟨g, cap, e1, e2, (Array.getElem?_eq_some_iff.1 e3).1, fun j x hj => ?_⟩
    rw [cell_of_row W g j cur _ _ e3]
    have hu : (natC (mem_ n (rea n E) r))[j]? = some (.int .i64 (x : Int)) := by unfold natC; rw [List.getElem?_map, hj]; rfl
    have hk := (List.getElem?_eq_some_iff.1 hj).1
    rw [← e7, List.getElem?_take, if_pos (by omega)] at hu
    simpa using hu
end
end Go.Proofs.Ytjgkiiohbceocaa
