/-
  The predicate free of scc.made, and the first free one, walked; conditions: at most 64 nodes.
-/
import Derived.Test.YtjgkiiohbceocaaScL
import Derived.Test.YtjgkiiohbceocaaScM
namespace Go.Proofs.Ytjgkiiohbceocaa
open Go.RowKit
set_option linter.unusedVariables false
set_option linter.unusedSimpArgs false

/-- Lists that begin with these nodes. -/
structure HdOk (W : World) (xs : List Value) (ls : List Nat) : Prop where
  len : xs.length = ls.length
  at_ : ∀ (k : Nat) (u : Value) (r : Nat), xs[k]? = some u → ls[k]? = some r → ∃ (g m c : Nat), u = Value.slice (some ⟨g, 0, none⟩) m c ∧ 0 < m ∧ g < W.heap.size ∧ W.cell? ⟨g, 0, none⟩ = some (.int .i64 (r : Int))
theorem HdOk.below {W W' : World} {xs : List Value} {ls : List Nat} (h : HdOk W xs ls) (hb : Below W.heap.size W W') : HdOk W' xs ls :=
  ⟨h.len, fun k u r hu hr => by
    obtain ⟨g, m, c, h1, h2, h3, h4⟩ := h.at_ k u r hu hr
    exact ⟨g, m, c, h1, h2, Nat.lt_of_lt_of_le h3 hb.size, by rw [hb.cell (p := ⟨g, 0, none⟩) h3]; exact h4⟩⟩
theorem any_prP {R : Nat → Nat → Bool} {ls : List Nat} {b : Nat} : (List.range ls.length).any (fun k => prP R ((ls[k]?).getD 0) b) = !freeR R ls b := by
  cases h : freeR R ls b with
  | true =>
    show _ = false
    rw [List.any_eq_false]
    intro k hk
    have hk' := List.mem_range.1 hk
    have he : ls[k]? = some ls[k] := List.getElem?_eq_getElem hk'
    rw [he, Option.getD_some]
    unfold prP
    rcases freeR_iff.1 h _ (List.getElem_mem hk') with e | e
    · rw [decide_eq_false (fun hn => hn e), Bool.false_and]; decide
    · rw [e, Bool.and_false]; decide
  | false =>
    show _ = true
    rw [List.any_eq_true]
    refine Classical.byContradiction fun hn => ?_
    have : freeR R ls b = true := freeR_iff.2 fun s hs => by
      obtain ⟨k, hk⟩ := List.mem_iff_getElem?.1 hs
      have hkl := (List.getElem?_eq_some_iff.1 hk).1
      by_cases e : s = b
      · exact .inl e
      · refine .inr ?_
        cases e2 : R s b with
        | false => rfl
        | true =>
          refine absurd ⟨k, List.mem_range.2 hkl, ?_⟩ hn
          rw [hk, Option.getD_some]
          unfold prP
          rw [decide_eq_true e, e2]; rfl
    rw [h] at this; cases this

set_option maxRecDepth 100000 in
set_option maxHeartbeats 1000000 in
theorem free_code (n : Nat) (hn : n ≤ 64) (E : Nat → Nat → Bool) (bg bl bL bv gl cl g1 n1 c1 b : Nat) (pv kv : Value) (xs : List Value) (ls : List Nat) (w : World) (hg : GrOk w bg bl n E pv kv) (h1 : 0 < n1) (hb : b < 64)
    (cb : w.cell? ⟨g1, 0, none⟩ = some (.int .i64 (b : Int))) (hg1 : g1 < w.heap.size) (cL : w.cell? ⟨bL, 0, none⟩ = some (.slice (some ⟨gl, 0, none⟩) xs.length cl)) (hbL : bL < w.heap.size)
    (cv : w.cell? ⟨bv, 0, none⟩ = some (.pointer (some ⟨bg, 0, none⟩))) (hbv : bv < w.heap.size) (hlen : xs.length ≤ 1000) (hgl : gl < w.heap.size) (hxs : ∀ k u, xs[k]? = some u → w.cell? ⟨gl, k, none⟩ = some u)
    (hd : HdOk w xs ls) (hls : ∀ r ∈ ls, r < 64) :
    Calls Try.prog 59 #[.slice (some ⟨g1, 0, none⟩) n1 c1, .pointer (some ⟨bL, 0, none⟩), .pointer (some ⟨bv, 0, none⟩)] w fun e w' => e = .returned (.bool (freeR (rea n E) ls b)) ∧ Below w.heap.size w w' := by
  have hmf : ∀ (fn : Fn) (first cap : Array Value) (w : World), (Instr.makeFunc fn first cap).run Try.prog w = .ok (.func fn first cap) w := fun _ _ _ _ => rfl
  have b0 := gr_alloc (Below.refl w.heap.size w) (.cells #[.slice (some ⟨g1, 0, none⟩) n1 c1] 25)
  have k0 := Blk.new w 25 #[.slice (some ⟨g1, 0, none⟩) n1 c1]
  have lg := hg.gr.lt
  have ll := hg.ln.lt
  have hg' := hg.below b0 lg ll
  have cb' := b0.cell (p := ⟨g1, 0, none⟩) hg1 |>.trans cb
  have cL' := b0.cell (p := ⟨bL, 0, none⟩) hbL |>.trans cL
  have cv' := b0.cell (p := ⟨bv, 0, none⟩) hbv |>.trans cv
  have hd' := hd.below b0
  have hxs' : ∀ (k : Nat) (u : Value), xs[k]? = some u → (w.alloc (.cells #[.slice (some ⟨g1, 0, none⟩) n1 c1] 25)).cell? ⟨gl, k, none⟩ = some u := fun k u hu => (b0.cell (p := ⟨gl, k, none⟩) hgl).trans (hxs k u hu)
  have hgl' : gl < (w.alloc (.cells #[.slice (some ⟨g1, 0, none⟩) n1 c1] 25)).heap.size := by simp; omega
  have hp : ∀ (k : Nat) (u : Value) (W : World), xs[k]? = some u → Below (w.alloc (.cells #[.slice (some ⟨g1, 0, none⟩) n1 c1] 25)).heap.size (w.alloc (.cells #[.slice (some ⟨g1, 0, none⟩) n1 c1] 25)) W →
      Calls Try.prog 61 #[u, .pointer (some ⟨w.heap.size, 0, none⟩), .pointer (some ⟨bv, 0, none⟩)] W fun e W' => e = .returned (.bool (prP (rea n E) ((ls[k]?).getD 0) b)) ∧ Below W.heap.size W W' := by
    intro k u W hu hW
    have hk : k < ls.length := by rw [← hd.len]; exact (List.getElem?_eq_some_iff.1 hu).1
    have he : ls[k]? = some ls[k] := List.getElem?_eq_getElem hk
    obtain ⟨g, m, c, rfl, hm, hgs, hc⟩ := hd'.at_ k u _ hu he
    rw [he, Option.getD_some]
    exact inner_code n hn E bg bl w.heap.size bv g m c g1 n1 c1 _ b pv kv W (hg'.below hW (by simp; omega) (by simp; omega)) hm h1 (hls _ (List.getElem_mem hk)) hb
      ((hW.cell (p := ⟨g, 0, none⟩) hgs).trans hc) ((k0.call hW).cell' rfl) ((hW.cell (p := ⟨g1, 0, none⟩) (by simp; omega)).trans cb') ((hW.cell (p := ⟨bv, 0, none⟩) (by simp; omega)).trans cv')
  have H := Lib.hid (And.intro b0 (And.intro hp (And.intro hxs' (And.intro hgl' (And.intro hlen hd.len)))))
  clear b0 k0 hg hg' hd hd' hxs hxs' hp cb cL cv cb' cv' hlen
  go_enter Try.func59, Try.ntmps59
  go_wp2_with (fail)
  refine (con_in xs _ gl cl ⟨w.heap.size, 0, none⟩ ⟨bv, 0, none⟩ _ H.out.2.2.2.2.1 H.out.2.2.2.1 H.out.2.2.1 H.out.2.1).mono ?_
  rintro e W1 ⟨rfl, h2⟩
  have H2 := Lib.hid (gr_call H.out.1 h2)
  clear h2
  go_wp2_with (fail)
  go_ret
  refine ⟨ret_bool ?_, H2.out⟩
  rw [H.out.2.2.2.2.2, any_prP, Bool.not_not]
end Go.Proofs.Ytjgkiiohbceocaa
