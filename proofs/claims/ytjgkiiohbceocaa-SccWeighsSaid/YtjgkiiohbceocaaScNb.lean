/-
  A valid graph's edges; the order of components, step by step, and each node's component, as plain functions; no condition.
  The predicate free of scc.made, and the first free one, walked; conditions: at most 64 nodes.
  What scc.made's loop keeps; no condition.
-/
import Derived.Test.YtjgkiiohbceocaaScI
import Derived.Test.YtjgkiiohbceocaaScF
import Derived.Test.YtjgkiiohbceocaaScL
namespace Go.Proofs.Ytjgkiiohbceocaa
set_option linter.unusedVariables false
set_option linter.unusedSimpArgs false

theorem chkE_ok {n : Int} : ∀ {l : List Edg} {b : Option Edg} {i : Nat}, (chkE n b i l).1 = 0 → ∀ e ∈ l, okEd n e
  | [], _, _, _, e, he => by cases he
  | x :: l, b, i, h, e, he => by
    unfold chkE at h
    by_cases h1 : (nodE n x.f && nodE n x.t) = true
    · rw [if_pos h1] at h
      by_cases h2 : badE b x = true
      · rw [if_pos h2] at h; simp at h
      · rw [if_neg h2] at h
        rcases List.mem_cons.1 he with rfl | he
        · unfold nodE at h1
          rw [Bool.and_eq_true, Bool.and_eq_true, Bool.and_eq_true, decide_eq_true_eq, decide_eq_true_eq, decide_eq_true_eq, decide_eq_true_eq] at h1
          exact ⟨h1.1.1, h1.1.2, h1.2.1, h1.2.2⟩
        · exact chkE_ok h e he
    · rw [if_neg h1] at h; simp at h
theorem chkG_ok {n : Int} {l : List Edg} (h : (chkG n l).1 = 0) : 0 ≤ n ∧ n ≤ 64 ∧ ∀ e ∈ l, okEd n e := by
  unfold chkG at h
  by_cases h1 : outN n = true
  · rw [if_pos h1] at h; simp at h
  · rw [if_neg h1] at h
    unfold outN at h1
    rw [Bool.not_eq_true, Bool.or_eq_false_iff, decide_eq_false_iff_not, decide_eq_false_iff_not] at h1
    exact ⟨by omega, by omega, chkE_ok h⟩
theorem chkE_le {n : Int} : ∀ {l : List Edg} {b : Option Edg} {i : Nat}, 0 ≤ (chkE n b i l).1 ∧ (chkE n b i l).1 ≤ 8
  | [], _, _ => ⟨Int.le_refl _, (show (0 : Int) ≤ 8 by decide)⟩
  | x :: l, b, i => by
    unfold chkE
    by_cases h1 : (nodE n x.f && nodE n x.t) = true
    · rw [if_pos h1]
      by_cases h2 : badE b x = true
      · rw [if_pos h2]; exact ⟨(show (0 : Int) ≤ 8 by decide), Int.le_refl _⟩
      · rw [if_neg h2]; exact chkE_le
    · rw [if_neg h1]; exact ⟨(show (0 : Int) ≤ 2 by decide), (show (2 : Int) ≤ 8 by decide)⟩

/-! The order, step by step. -/
theorem ordR_fuel {n : Nat} {T : Nat → Nat → Bool} (ht : Trans' T) : ∀ (f : Nat) (left : List Nat), LeftOk n T left → left.length ≤ f → ordR T f left = ordR T left.length left
  | 0, left, hl, hf => by
    have : left = [] := List.length_eq_zero_iff.1 (by omega)
    subst this
    rfl
  | f + 1, left, hl, hf => by
    by_cases hne : left = []
    · subst hne; rfl
    · obtain ⟨r, h1, h2, h3⟩ := find_free ht hne hl.one
      have hlen := List.length_erase_of_mem h2
      have hpos : 0 < left.length := List.length_pos_iff.2 hne
      obtain ⟨m, hm⟩ : ∃ m, left.length = m + 1 := ⟨left.length - 1, by omega⟩
      rw [hm]
      show (match left.find? (freeR T left) with | none => [] | some r => r :: ordR T f (left.erase r)) = (match left.find? (freeR T left) with | none => [] | some r => r :: ordR T m (left.erase r))
      rw [h1]
      show r :: ordR T f (left.erase r) = r :: ordR T m (left.erase r)
      rw [ordR_fuel ht f _ (hl.erase r) (by omega), ordR_fuel ht m _ (hl.erase r) (by omega)]
theorem ordR_step {n : Nat} {T : Nat → Nat → Bool} (ht : Trans' T) {left : List Nat} (hl : LeftOk n T left) {r : Nat} (h1 : left.find? (freeR T left) = some r) : ordR T left.length left = r :: ordR T (left.erase r).length (left.erase r) := by
  have h2 := List.mem_of_find?_eq_some h1
  have hlen := List.length_erase_of_mem h2
  have hpos : 0 < left.length := List.length_pos_of_mem h2
  obtain ⟨m, hm⟩ : ∃ m, left.length = m + 1 := ⟨left.length - 1, by omega⟩
  rw [hm]
  show (match left.find? (freeR T left) with | none => [] | some r => r :: ordR T m (left.erase r)) = _
  rw [h1]
  show r :: ordR T m (left.erase r) = _
  rw [hlen, hm]
  rfl
/-- The first one that a test holds of, by its place. -/
theorem find_at {p : Nat → Bool} : ∀ {l : List Nat} {k r : Nat}, l[k]? = some r → p r = true → (∀ j, j < k → ∀ s, l[j]? = some s → p s = false) → l.find? p = some r
  | [], _, _, h, _, _ => by simp at h
  | a :: l, 0, r, h, hp, _ => by
    simp at h
    subst h
    rw [List.find?_cons, hp]
  | a :: l, k + 1, r, h, hp, hj => by
    rw [List.find?_cons, hj 0 (by omega) a rfl]
    exact find_at (k := k) (by simpa using h) hp (fun j hjk s hs => hj (j + 1) (by omega) s (by simpa using hs))
theorem erase_at : ∀ {l : List Nat} {k r : Nat}, l.Nodup → l[k]? = some r → l.erase r = l.take k ++ l.drop (k + 1)
  | [], _, _, _, h => by simp at h
  | a :: l, 0, r, hn, h => by
    simp at h
    subst h
    rw [List.erase_cons_head]; rfl
  | a :: l, k + 1, r, hn, h => by
    rw [List.nodup_cons] at hn
    have h' : l[k]? = some r := by simpa using h
    have hne : a ≠ r := fun e => by subst e; exact hn.1 (List.mem_of_getElem? h')
    rw [List.erase_cons_tail (by simpa using hne), erase_at hn.2 h']
    rfl
/-- Whose component a node is in, so far. -/
def pf (T : Nat → Nat → Bool) (ps : List Nat) (k : Nat) : Nat := if ps.any (fun r => tog T r k) then ps.findIdx (fun r => tog T r k) else 0
theorem pf_nil (T : Nat → Nat → Bool) (k : Nat) : pf T [] k = 0 := rfl
theorem pf_in {T : Nat → Nat → Bool} {ps : List Nat} {r k : Nat} (hno : ∀ s ∈ ps, tog T s k = false) (h : tog T r k = true) : pf T (ps ++ [r]) k = ps.length := by
  unfold pf
  rw [List.any_append, if_pos (by simp [h]), List.findIdx_append, if_neg]
  · rw [List.findIdx_cons, h]; simp
  · rw [List.findIdx_eq_length.2 hno]
    omega
theorem pf_out {T : Nat → Nat → Bool} {ps : List Nat} {r k : Nat} (h : tog T r k = false) : pf T (ps ++ [r]) k = pf T ps k := by
  unfold pf
  rw [List.any_append]
  have e : ([r].any fun r => tog T r k) = false := by simp [h]
  rw [e, Bool.or_false]
  by_cases h1 : ps.any (fun r => tog T r k) = true
  · rw [if_pos h1, if_pos h1, List.findIdx_append, if_pos]
    rw [List.findIdx_lt_length]
    obtain ⟨s, hs, hk⟩ := List.any_eq_true.1 h1
    exact ⟨s, hs, hk⟩
  · rw [if_neg h1, if_neg h1]
/-- The place of a node's component. -/
def partI (n : Nat) (T : Nat → Nat → Bool) : Nat → Nat := pf T (partsR n T)
theorem partI_at {n : Nat} {T : Nat → Nat → Bool} (ht : Trans' T) {i r k : Nat} (hr : (partsR n T)[i]? = some r) (h : tog T r k = true) : partI n T k = i := by
  obtain ⟨hi, he⟩ := List.getElem?_eq_some_iff.1 hr
  unfold partI pf
  rw [if_pos (List.any_eq_true.2 ⟨r, List.mem_of_getElem? hr, h⟩), List.findIdx_eq hi]
  refine ⟨by rw [he]; exact h, fun j hj => ?_⟩
  cases e : tog T (partsR n T)[j] k with
  | false => rfl
  | true =>
    have hp := List.pairwise_iff_getElem.1 (partsR_topo ht (n := n)) j i (by omega) hi hj
    have h1 := partsR_lt ht (n := n) (List.getElem?_eq_getElem (show j < (partsR n T).length by omega))
    have h2 := partsR_lt ht hr
    exact absurd (root_one h1.2 h2.2 (tog_trans ht e (tog_symm h))) (by rw [← he]; exact hp.1)
theorem partI_lt {n : Nat} {T : Nat → Nat → Bool} (ht : Trans' T) {k : Nat} (hk : k < n) : partI n T k < (partsR n T).length := by
  obtain ⟨r, h1, h2, h3⟩ := root_of ht k
  obtain ⟨i, hi⟩ := List.mem_iff_getElem?.1 ((partsR_mem (n := n) ht).2 ⟨by omega, h2⟩)
  rw [partI_at ht hi h3]
  exact (List.getElem?_eq_some_iff.1 hi).1
end Go.Proofs.Ytjgkiiohbceocaa
namespace Go.Proofs.Ytjgkiiohbceocaa
open Go.RowKit
set_option linter.unusedVariables false
set_option linter.unusedSimpArgs false

/-- Lists that begin with these nodes. -/
structure HdOk (W : World) (xs : List Value) (ls : List Nat) : Prop where
  len : xs.length = ls.length
  at_ : ∀ (k : Nat) (u : Value) (r : Nat), xs[k]? = some u → ls[k]? = some r → ∃ (g m c : Nat), u = Value.slice (some ⟨g, 0, none⟩) m c ∧ 0 < m ∧ g < W.heap.size ∧ W.cell? ⟨g, 0, none⟩ = some (.int .i64 (r : Int))
theorem HdOk.below {W W' : World} {xs : List Value} {ls : List Nat} (h : HdOk W xs ls) (hb : Below W.heap.size W W') : HdOk W' xs ls :=
  ⟨h.len, fun k u r hu hr => by
    obtain ⟨g, m, c, h1, h2, h3, h4⟩ := h.at_ k u r hu hr
    exact ⟨g, m, c, h1, h2, Nat.lt_of_lt_of_le h3 hb.size, by rw [hb.cell (p := ⟨g, 0, none⟩) h3]; exact h4⟩⟩
theorem any_prP {R : Nat → Nat → Bool} {ls : List Nat} {b : Nat} : (List.range ls.length).any (fun k => prP R ((ls[k]?).getD 0) b) = !freeR R ls b := by
  cases h : freeR R ls b with
  | true =>
    show _ = false
    rw [List.any_eq_false]
    intro k hk
    have hk' := List.mem_range.1 hk
    have he : ls[k]? = some ls[k] := List.getElem?_eq_getElem hk'
    rw [he, Option.getD_some]
    unfold prP
    rcases freeR_iff.1 h _ (List.getElem_mem hk') with e | e
    · rw [decide_eq_false (fun hn => hn e), Bool.false_and]; decide
    · rw [e, Bool.and_false]; decide
  | false =>
    show _ = true
    rw [List.any_eq_true]
    refine Classical.byContradiction fun hn => ?_
    have : freeR R ls b = true := freeR_iff.2 fun s hs => by
      obtain ⟨k, hk⟩ := List.mem_iff_getElem?.1 hs
      have hkl := (List.getElem?_eq_some_iff.1 hk).1
      by_cases e : s = b
      · exact .inl e
      · refine .inr ?_
        cases e2 : R s b with
        | false => rfl
        | true =>
          refine absurd ⟨k, List.mem_range.2 hkl, ?_⟩ hn
          rw [hk, Option.getD_some]
          unfold prP
          rw [decide_eq_true e, e2]; rfl
    rw [h] at this; cases this

set_option maxRecDepth 100000 in
set_option maxHeartbeats 1000000 in
theorem free_code (n : Nat) (hn : n ≤ 64) (E : Nat → Nat → Bool) (bg bl bL bv gl cl g1 n1 c1 b : Nat) (pv kv : Value) (xs : List Value) (ls : List Nat) (w : World) (hg : GrOk w bg bl n E pv kv) (h1 : 0 < n1) (hb : b < 64)
    (cb : w.cell? ⟨g1, 0, none⟩ = some (.int .i64 (b : Int))) (hg1 : g1 < w.heap.size) (cL : w.cell? ⟨bL, 0, none⟩ = some (.slice (some ⟨gl, 0, none⟩) xs.length cl)) (hbL : bL < w.heap.size)
    (cv : w.cell? ⟨bv, 0, none⟩ = some (.pointer (some ⟨bg, 0, none⟩))) (hbv : bv < w.heap.size) (hlen : xs.length ≤ 1000) (hgl : gl < w.heap.size) (hxs : ∀ k u, xs[k]? = some u → w.cell? ⟨gl, k, none⟩ = some u)
    (hd : HdOk w xs ls) (hls : ∀ r ∈ ls, r < 64) :
    Calls Try.prog 59 #[.slice (some ⟨g1, 0, none⟩) n1 c1, .pointer (some ⟨bL, 0, none⟩), .pointer (some ⟨bv, 0, none⟩)] w fun e w' => e = .returned (.bool (freeR (rea n E) ls b)) ∧ Below w.heap.size w w' := by
  have hmf : ∀ (fn : Fn) (first cap : Array Value) (w : World), (Instr.makeFunc fn first cap).run Try.prog w = .ok (.func fn first cap) w := fun _ _ _ _ => rfl
  have b0 := gr_alloc (Below.refl w.heap.size w) (.cells #[.slice (some ⟨g1, 0, none⟩) n1 c1] 25)
  have k0 := Blk.new w 25 #[.slice (some ⟨g1, 0, none⟩) n1 c1]
  have lg := hg.gr.lt
  have ll := hg.ln.lt
  have hg' := hg.below b0 lg ll
  have cb' := b0.cell (p := ⟨g1, 0, none⟩) hg1 |>.trans cb
  have cL' := b0.cell (p := ⟨bL, 0, none⟩) hbL |>.trans cL
  have cv' := b0.cell (p := ⟨bv, 0, none⟩) hbv |>.trans cv
  have hd' := hd.below b0
  have hxs' : ∀ (k : Nat) (u : Value), xs[k]? = some u → (w.alloc (.cells #[.slice (some ⟨g1, 0, none⟩) n1 c1] 25)).cell? ⟨gl, k, none⟩ = some u := fun k u hu => (b0.cell (p := ⟨gl, k, none⟩) hgl).trans (hxs k u hu)
  have hgl' : gl < (w.alloc (.cells #[.slice (some ⟨g1, 0, none⟩) n1 c1] 25)).heap.size := by simp; omega
  have hp : ∀ (k : Nat) (u : Value) (W : World), xs[k]? = some u → Below (w.alloc (.cells #[.slice (some ⟨g1, 0, none⟩) n1 c1] 25)).heap.size (w.alloc (.cells #[.slice (some ⟨g1, 0, none⟩) n1 c1] 25)) W →
      Calls Try.prog 61 #[u, .pointer (some ⟨w.heap.size, 0, none⟩), .pointer (some ⟨bv, 0, none⟩)] W fun e W' => e = .returned (.bool (prP (rea n E) ((ls[k]?).getD 0) b)) ∧ Below W.heap.size W W' := by
    intro k u W hu hW
    have hk : k < ls.length := by rw [← hd.len]; exact (List.getElem?_eq_some_iff.1 hu).1
    have he : ls[k]? = some ls[k] := List.getElem?_eq_getElem hk
    obtain ⟨g, m, c, rfl, hm, hgs, hc⟩ := hd'.at_ k u _ hu he
    rw [he, Option.getD_some]
    exact inner_code n hn E bg bl w.heap.size bv g m c g1 n1 c1 _ b pv kv W (hg'.below hW (by simp; omega) (by simp; omega)) hm h1 (hls _ (List.getElem_mem hk)) hb
      ((hW.cell (p := ⟨g, 0, none⟩) hgs).trans hc) ((k0.call hW).cell' rfl) ((hW.cell (p := ⟨g1, 0, none⟩) (by simp; omega)).trans cb') ((hW.cell (p := ⟨bv, 0, none⟩) (by simp; omega)).trans cv')
  have H := Lib.hid (And.intro b0 (And.intro hp (And.intro hxs' (And.intro hgl' (And.intro hlen hd.len)))))
  clear b0 k0 hg hg' hd hd' hxs hxs' hp cb cL cv cb' cv' hlen
  go_enter Try.func59, Try.ntmps59
  go_wp2_with (fail)
  refine (con_in xs _ gl cl ⟨w.heap.size, 0, none⟩ ⟨bv, 0, none⟩ _ H.out.2.2.2.2.1 H.out.2.2.2.1 H.out.2.2.1 H.out.2.1).mono ?_
  rintro e W1 ⟨rfl, h2⟩
  have H2 := Lib.hid (gr_call H.out.1 h2)
  clear h2
  go_wp2_with (fail)
  go_ret
  refine ⟨ret_bool ?_, H2.out⟩
  rw [H.out.2.2.2.2.2, any_prP, Bool.not_not]
end Go.Proofs.Ytjgkiiohbceocaa
namespace Go.Proofs.Ytjgkiiohbceocaa
open Go.RowKit
set_option linter.unusedVariables false
set_option linter.unusedSimpArgs false

/-- What is known between two rounds of made's loop. -/
structure LpOk (W : World) (B n : Nat) (E : Nat → Nat → Bool) (bL bv bg bl bp : Nat) (V : Nat → Value) (f : Nat → Nat) (left ps : List Nat) (lv vp : Value) : Prop where
  lo : LeftOk n (rea n E) left
  eq : partsR n (rea n E) = ps ++ ordR (rea n E) left.length left
  gr : Blk W bg 69 #[.pointer (some ⟨bl, 0, none⟩), .int .i64 (n : Int), vp, .slice (some ⟨bp, 0, none⟩) n n]
  ln : Blk W bl 79 (lnkC E (rea n E))
  pt : Blk W bp 3 (numC n f)
  var : Blk W bv 64 #[.pointer (some ⟨bg, 0, none⟩)]
  lvr : Blk W bL 41 #[lv]
  lrow : W.ownsRow B 25 1 lv left.length (left.map V)
  prow : W.ownsRow B 25 1 vp ps.length (ps.map V)
  ne : ∀ g, lv.ownBlock = some g → vp.ownBlock ≠ some g
  inn : ∀ r, r ∈ roots n (rea n E) → OwnN W B (V r) (mem_ n (rea n E) r)
  lt : bp < B
section
variable {W W' : World} {B n : Nat} {E : Nat → Nat → Bool} {bL bv bg bl bp : Nat} {V : Nat → Value} {f : Nat → Nat} {left ps : List Nat} {lv vp : Value}
theorem LpOk.below (h : LpOk W B n E bL bv bg bl bp V f left ps lv vp) (hb : Below W.heap.size W W') : LpOk W' B n E bL bv bg bl bp V f left ps lv vp :=
  ⟨h.lo, h.eq, h.gr.call hb, h.ln.call hb, h.pt.call hb, h.var.call hb, h.lvr.call hb, own_below h.lrow hb (Nat.le_refl _), own_below h.prow hb (Nat.le_refl _), h.ne, fun r hr => own_below (h.inn r hr) hb (Nat.le_refl _), h.lt⟩
theorem LpOk.drew (h : LpOk W B n E bL bv bg bl bp V f left ps lv vp) : LpOk W.drew B n E bL bv bg bl bp V f left ps lv vp :=
  ⟨h.lo, h.eq, h.gr, h.ln, h.pt, h.var, h.lvr, h.lrow, h.prow, h.ne, h.inn, h.lt⟩
theorem LpOk.setPt (h : LpOk W B n E bL bv bg bl bp V f left ps lv vp) {f' : Nat → Nat} {x y : Nat} (hx : x < n) (hy : f' x = y) (hf : ∀ j, j < n → j ≠ x → f' j = f j) :
    LpOk (W.setCell ⟨bp, x, none⟩ (.int .i64 (y : Int))) B n E bL bv bg bl bp V f' left ps lv vp :=
  ⟨h.lo, h.eq, h.gr.far (h.gr.ne_ h.pt (by decide)) _, h.ln.far (h.ln.ne_ h.pt (by decide)) _, by rw [← numC_set (f := f) hx hy hf]; exact h.pt.set_ _ _, h.var.far (h.var.ne_ h.pt (by decide)) _, h.lvr.far (h.lvr.ne_ h.pt (by decide)) _,
    own_setCell h.lrow h.pt (by decide) _, own_setCell h.prow h.pt (by decide) _, h.ne, fun r hr => own_blks (h.inn r hr) (fun k cs hk hb => hb.far (show k ≠ bp by have := h.lt; omega) _), h.lt⟩
/-- The list that is left, as a row of a block. -/
theorem LpOk.row (h : LpOk W B n E bL bv bg bl bp V f left ps lv vp) (hne : left ≠ []) : ∃ gl cap cur, lv = .slice (some ⟨gl, 0, none⟩) left.length cap ∧ B ≤ gl ∧ Blk W gl 25 cur ∧ left.length ≤ cap ∧ cap ≤ maxLen ∧ cur.size = cap ∧ cur.toList.take left.length = left.map V := by
  rcases h.lrow.2 with ⟨_, h0⟩ | ⟨g, cap, cur, h1, h2, h3, h4, h5, h6, h7⟩
  · exact absurd (List.length_eq_zero_iff.1 h0) hne
  · exact ⟨g, cap, cur, h1, h2, h3, h4, h5, by omega, by rw [← h7]; simp⟩
theorem LpOk.heads (h : LpOk W B n E bL bv bg bl bp V f left ps lv vp) : HdOk W (left.map V) left :=
  ⟨by rw [List.length_map], fun k u r hu hr => by
    rw [List.getElem?_map, hr] at hu
    simp only [Option.map_some, Option.some.injEq] at hu
    subst hu
    have hm := List.mem_of_getElem? hr
    have hrt := h.lo.root r hm
    have hlt := h.lo.lt r hm
    obtain ⟨t, ht⟩ := mem_head hlt hrt
    have hin := h.inn r (mem_roots.2 ⟨hlt, hrt⟩)
    obtain ⟨g, cap, h1, h2, h3, h4, _, h5⟩ := own_cell hin (i := 0) (u := .int .i64 (r : Int)) (by rw [ht]; rfl)
    exact ⟨g, _, cap, h1, h5, h3, h4⟩⟩
/-- The components that were found do not hold a node of one that is left. -/
theorem LpOk.apart (h : LpOk W B n E bL bv bg bl bp V f left ps lv vp) (ht : Trans' (rea n E)) {r k : Nat} (hr : r ∈ left) (hk : tog (rea n E) r k = true) : ∀ s ∈ ps, tog (rea n E) s k = false := by
  intro s hs
  cases e : tog (rea n E) s k with
  | false => rfl
  | true =>
    have h1 := tog_trans ht e (tog_symm hk)
    have hp := partsR_topo ht (n := n)
    rw [h.eq] at hp
    have h2 := (List.pairwise_append.1 hp).2.2 s hs r ((ordR_mem ht _ _ h.lo (Nat.le_refl _) r).2 hr)
    have h3 := (partsR_mem ht (n := n)).1 (by rw [h.eq]; exact List.mem_append_left _ hs)
    exact absurd (root_one h3.2 (h.lo.root r hr) h1) h2.1
end
/-- What the nodes of the component have got so far. -/
def pfJ (T : Nat → Nat → Bool) (ps m : List Nat) (j k : Nat) : Nat := if k ∈ m.take j then ps.length else pf T ps k
theorem pfJ_zero (T : Nat → Nat → Bool) (ps m : List Nat) (k : Nat) : pfJ T ps m 0 k = pf T ps k := by unfold pfJ; rw [if_neg (by simp)]
theorem pfJ_set {T : Nat → Nat → Bool} {ps m : List Nat} {j x : Nat} (hx : m[j]? = some x) : pfJ T ps m (j + 1) x = ps.length := by
  unfold pfJ
  rw [List.take_add_one, hx, if_pos (by simp)]
theorem pfJ_far {T : Nat → Nat → Bool} {ps m : List Nat} {j x k : Nat} (hx : m[j]? = some x) (hk : k ≠ x) : pfJ T ps m (j + 1) k = pfJ T ps m j k := by
  unfold pfJ
  rw [List.take_add_one, hx]
  by_cases h : k ∈ m.take j
  · rw [if_pos h, if_pos (by simp [h])]
  · rw [if_neg h, if_neg (by simp [h, hk])]
theorem pfJ_end {n : Nat} {T : Nat → Nat → Bool} {ps : List Nat} {r k : Nat} (hk : k < n) (hno : ∀ k, tog T r k = true → ∀ s ∈ ps, tog T s k = false) : pf T (ps ++ [r]) k = pfJ T ps (mem_ n T r) (mem_ n T r).length k := by
  unfold pfJ
  rw [List.take_length]
  cases h : tog T r k with
  | true =>
    rw [if_pos (mem_mem.2 ⟨hk, h⟩)]
    exact pf_in (hno k h) h
  | false =>
    rw [if_neg (fun hm => by rw [(mem_mem.1 hm).2] at h; cases h)]
    exact pf_out h
theorem mem_len (n : Nat) (T : Nat → Nat → Bool) (r : Nat) : (mem_ n T r).length ≤ n := by
  unfold mem_
  exact Nat.le_trans (List.length_filter_le _ _) (by simp)
theorem inn_map {n : Nat} {T : Nat → Nat → Bool} {W : World} {B : Nat} : ∀ {l : List Nat} {vs : List Value}, l.Nodup → InnN W B (l.map (mem_ n T)) vs → ∃ V : Nat → Value, vs = l.map V ∧ (∀ r ∈ l, OwnN W B (V r) (mem_ n T r)) ∧ ∀ r, (V r).oneCell' = true
  | [], [], _, _ => ⟨fun _ => .slice none 0 0, rfl, ⟨fun r (h : r ∈ ([] : List Nat)) => absurd h (List.not_mem_nil), fun _ => rfl⟩⟩
  | a :: l, v :: vs, hn, h => by
    rw [List.nodup_cons] at hn
    obtain ⟨V, h1, h2, h3⟩ := inn_map hn.2 h.2
    refine ⟨fun r => if r = a then v else V r, ?_, ?_, ?_⟩
    · rw [List.map_cons, if_pos rfl]
      congr 1
      rw [h1]
      refine List.map_congr_left fun r hr => ?_
      rw [if_neg (fun e => by subst e; exact hn.1 hr)]
    · intro r hr
      show OwnN W B (if r = a then v else V r) (mem_ n T r)
      by_cases e : r = a
      · subst e
        rw [if_pos rfl]
        exact h.1
      · rw [if_neg e]
        rcases List.mem_cons.1 hr with h' | h'
        · exact absurd h' e
        · exact h2 r h'
    · intro r
      show (if r = a then v else V r).oneCell' = true
      split
      · exact own_one h.1
      · exact h3 r
theorem inn_of {n : Nat} {T : Nat → Nat → Bool} {W : World} {B : Nat} {V : Nat → Value} : ∀ {l : List Nat}, (∀ r ∈ l, OwnN W B (V r) (mem_ n T r)) → InnN W B (l.map (mem_ n T)) (l.map V)
  | [], _ => trivial
  | a :: l, h => ⟨h a (by simp), inn_of fun r hr => h r (by simp [hr])⟩
section
variable {W W' : World} {B n : Nat} {E : Nat → Nat → Bool} {bL bv bg bl bp : Nat} {V : Nat → Value} {f : Nat → Nat} {left ps : List Nat} {lv vp : Value}
theorem LpOk.roots_of (h : LpOk W B n E bL bv bg bl bp V f left ps lv vp) (ht : Trans' (rea n E)) {r : Nat} (hr : r ∈ ps ∨ r ∈ left) : r ∈ roots n (rea n E) := by
  have : r ∈ partsR n (rea n E) := by
    rw [h.eq]
    rcases hr with hr | hr
    · exact List.mem_append_left _ hr
    · exact List.mem_append_right _ ((ordR_mem ht _ _ h.lo (Nat.le_refl _) r).2 hr)
  exact mem_roots.2 ((partsR_mem ht).1 this)
/-- When nothing is left. -/
theorem LpOk.ends (h : LpOk W B n E bL bv bg bl bp V f [] ps lv vp) (ht : Trans' (rea n E)) {B' : Nat} (hB : B' ≤ B) : OwnLL W B' vp (partsV n (rea n E)) ∧ partsR n (rea n E) = ps := by
  have e : partsR n (rea n E) = ps := by rw [h.eq]; exact List.append_nil _
  refine ⟨⟨ps.map V, ?_, ?_⟩, e⟩
  · unfold partsV
    rw [e, List.length_map]
    exact own_weaken h.prow hB
  · unfold partsV
    rw [e]
    exact inn_of fun r hr => own_weaken (h.inn r (h.roots_of ht (.inl hr))) hB
/-- The cells of the row that is left. -/
theorem row_cellsV {gl : Nat} {cur : Array Value} {len : Nat} (hgl : Blk W gl 25 cur) (htk : cur.toList.take len = left.map V) (hlen : len = left.length) (k : Nat) (u : Value) (hu : (left.map V)[k]? = some u) : W.cell? ⟨gl, k, none⟩ = some u := by
  rw [hgl.cell]
  have hk := (List.getElem?_eq_some_iff.1 hu).1
  rw [List.length_map] at hk
  rw [← htk, List.getElem?_take, if_pos (by omega)] at hu
  simpa using hu
/-- A component's list, as a row of a block. -/
theorem LpOk.comp (h : LpOk W B n E bL bv bg bl bp V f left ps lv vp) {r : Nat} (hr : r ∈ roots n (rea n E)) : ∃ gr cap, V r = .slice (some ⟨gr, 0, none⟩) (mem_ n (rea n E) r).length cap ∧ B ≤ gr ∧ gr < W.heap.size ∧ ∀ (j x : Nat), (mem_ n (rea n E) r)[j]? = some x → W.cell? ⟨gr, j, none⟩ = some (.int .i64 (x : Int)) := by
  obtain ⟨h1, h2⟩ := mem_roots.1 hr
  obtain ⟨t, ht⟩ := mem_head h1 h2
  have hin := h.inn r hr
  rcases hin.2 with ⟨_, h0⟩ | ⟨g, cap, cur, e1, e2, e3, _, _, _, e7⟩
  · rw [ht] at h0; simp at h0
  · refine ⟨g, cap, e1, e2, (Array.getElem?_eq_some_iff.1 e3).1, fun j x hj => ?_⟩
    rw [cell_of_row W g j cur _ _ e3]
    have hu : (natC (mem_ n (rea n E) r))[j]? = some (.int .i64 (x : Int)) := by unfold natC; rw [List.getElem?_map, hj]; rfl
    have hk := (List.getElem?_eq_some_iff.1 hj).1
    rw [← e7, List.getElem?_take, if_pos (by omega)] at hu
    simpa using hu
end
end Go.Proofs.Ytjgkiiohbceocaa
