/-
  The reference's Check, walked; conditions: at most 1000000 edges.
-/
import Derived.Test.YtjgkiiohbceocaaScB
import Derived.Deep.RegionWith
import Derived.Deep.RegionLaw
import Derived.StillTailTactics
import Derived.BigQuiet
namespace Go.Proofs.Ytjgkiiohbceocaa
open Go.RowKit
set_option linter.unusedVariables false
set_option linter.unusedSimpArgs false

def edgA (e : Edg) : Value := .agg #[.int .i64 e.f, .int .i64 e.t]
def edgO (e : Edg) : Obj := .cells #[.int .i64 e.f, .int .i64 e.t] 57
theorem badE_not (b e : Edg) : badE (some b) e = !(decide (b.f < e.f) || (decide (b.f = e.f) && decide (b.t < e.t))) := by
  show (decide (e.f < b.f) || (decide (e.f = b.f) && decide (e.t ≤ b.t))) = _
  by_cases h1 : e.f < b.f
  · rw [decide_eq_true h1, decide_eq_false (show ¬ b.f < e.f by omega), decide_eq_false (show ¬ b.f = e.f by omega)]; rfl
  · by_cases h2 : b.f < e.f
    · rw [decide_eq_false h1, decide_eq_true h2, decide_eq_false (show ¬ e.f = b.f by omega)]; rfl
    · rw [decide_eq_false h1, decide_eq_false h2, decide_eq_true (show e.f = b.f by omega), decide_eq_true (show b.f = e.f by omega)]
      by_cases h3 : e.t ≤ b.t
      · rw [decide_eq_true h3, decide_eq_false (show ¬ b.t < e.t by omega)]; rfl
      · rw [decide_eq_false h3, decide_eq_true (show b.t < e.t by omega)]; rfl

set_option maxRecDepth 100000 in
set_option maxHeartbeats 1000000 in
theorem before_ref (b e : Edg) (w : World) :
    Calls Try.prog 54 #[.agg #[.int .i64 b.f, .int .i64 b.t], .agg #[.int .i64 e.f, .int .i64 e.t]] w fun r w' => r = .returned (.bool (!badE (some b) e)) ∧ w' = (w.alloc (.cells #[.int .i64 b.f, .int .i64 b.t] 57)).alloc (.cells #[.int .i64 e.f, .int .i64 e.t] 57) := by
  rw [badE_not, Bool.not_not]
  by_cases h1 : b.f < e.f
  · rw [decide_eq_true h1, Bool.true_or]
    go_enter Try.func54, Try.ntmps54
    go_wp2_with (fail)
    go_ret
    exact ⟨by first | rfl | simp, rfl⟩
  · have h1' : e.f ≤ b.f := by omega
    by_cases h2 : b.f = e.f
    · rw [decide_eq_false h1, decide_eq_true h2, Bool.false_or, Bool.true_and, h2]
      go_enter Try.func54, Try.ntmps54
      go_wp2_with (fail)
      go_ret
      exact ⟨by first | rfl | simp, rfl⟩
    · rw [decide_eq_false h1, decide_eq_false h2, Bool.false_and, Bool.false_or]
      go_enter Try.func54, Try.ntmps54
      go_wp2_with (fail)
      go_ret
      exact ⟨by first | rfl | simp, rfl⟩

set_option maxRecDepth 100000 in
set_option maxHeartbeats 2000000 in
theorem rcheck_out (n : Int) (sv : Value) (w : World) (h : outN n = true) :
    Calls Try.prog 22 #[.agg #[.int .i64 n, sv]] w fun e w' => e = .returned (.tuple #[.int .i64 2, .int .i64 0]) ∧ Below w.heap.size w w' := by
  have b0 := gr_alloc (Below.refl w.heap.size w) (.cells #[.int .i64 n, sv] 24)
  have K := Lib.hid (And.intro b0 h)
  clear b0
  unfold outN at h
  by_cases h0 : n < 0
  · clear h
    go_enter Try.func22, Try.ntmps22
    go_wp2_with (fail)
    go_ret2
    exact ⟨rfl, K.out.1⟩
  · have h1 : 64 < n := by
      rw [decide_eq_false h0, Bool.false_or, decide_eq_true_eq] at h
      exact h
    clear h
    go_enter Try.func22, Try.ntmps22
    go_wp2_with (fail)
    go_ret2
    exact ⟨rfl, K.out.1⟩

/-- The ways in which an edge's nodes may be. -/
theorem node_ways (n : Int) (e : Edg) : (e.f < 0 ∧ (nodE n e.f && nodE n e.t) = false) ∨ (¬ e.f < 0 ∧ n ≤ e.f ∧ (nodE n e.f && nodE n e.t) = false) ∨ (¬ e.f < 0 ∧ ¬ n ≤ e.f ∧ e.t < 0 ∧ (nodE n e.f && nodE n e.t) = false)
    ∨ (¬ e.f < 0 ∧ ¬ n ≤ e.f ∧ ¬ e.t < 0 ∧ n ≤ e.t ∧ (nodE n e.f && nodE n e.t) = false) ∨ (¬ e.f < 0 ∧ ¬ n ≤ e.f ∧ ¬ e.t < 0 ∧ ¬ n ≤ e.t ∧ (nodE n e.f && nodE n e.t) = true) := by
  unfold nodE
  by_cases a : e.f < 0
  · exact .inl ⟨a, by rw [decide_eq_false (show ¬ 0 ≤ e.f by omega)]; rfl⟩
  · by_cases b : n ≤ e.f
    · exact .inr (.inl ⟨a, b, by rw [decide_eq_false (show ¬ e.f < n by omega), Bool.and_false]; rfl⟩)
    · by_cases c : e.t < 0
      · exact .inr (.inr (.inl ⟨a, b, c, by rw [decide_eq_false (show ¬ 0 ≤ e.t by omega), Bool.false_and, Bool.and_false]⟩))
      · by_cases d : n ≤ e.t
        · exact .inr (.inr (.inr (.inl ⟨a, b, c, d, by rw [decide_eq_false (show ¬ e.t < n by omega), Bool.and_false, Bool.and_false]⟩)))
        · exact .inr (.inr (.inr (.inr ⟨a, b, c, d, by rw [decide_eq_true (show 0 ≤ e.f by omega), decide_eq_true (show e.f < n by omega), decide_eq_true (show 0 ≤ e.t by omega), decide_eq_true (show e.t < n by omega)]; rfl⟩)))

set_option maxRecDepth 100000 in
set_option maxHeartbeats 4000000 in
theorem rcheck_in (n : Int) (l : List Edg) (hl : l.length ≤ 1000000) (A : Option Addr) (c : Nat) (w : World) (h : outN n = false) (hA : Cells w A 2 l.length (edAt l)) :
    Calls Try.prog 22 #[.agg #[.int .i64 n, .slice A l.length c]] w fun e w' => e = .returned (.tuple #[.int .i64 (chkE n none 0 l).1, .int .i64 ((chkE n none 0 l).2 : Int)]) ∧ Below w.heap.size w w' := by
  have b0 := gr_alloc (Below.refl w.heap.size w) (.cells #[.int .i64 n, .slice A l.length c] 24)
  have k0 := Blk.new w 24 #[.int .i64 n, .slice A l.length c]
  have hA0 := hA.below b0
  have h0 : ¬ n < 0 ∧ ¬ 64 < n := by
    unfold outN at h
    rw [Bool.or_eq_false_iff, decide_eq_false_iff_not, decide_eq_false_iff_not] at h
    exact h
  obtain ⟨h0, h1⟩ := h0
  have k0' := k0.cell' (i := 0) rfl
  have k1' := k0.cell' (i := 1) rfl
  obtain ⟨ln, hn⟩ : ∃ ln, ln = l.length := ⟨_, rfl⟩
  have K := Lib.hid (And.intro b0 (And.intro k0 hA0))
  clear b0 k0 hA0 hA h
  rw [← hn] at hl K k1' ⊢
  have HN := Lib.hid hn
  clear hn
  go_enter Try.func22, Try.ntmps22
  go_wp2_with (fail)
  go_loopw [4] (fun iv wr => ∃ k : Nat, k ≤ ln ∧ iv = .int .i64 (k : Int) ∧ chkE n none 0 l = chkE n (prevE l k) k (l.drop k) ∧ Below (w.heap.size + 1) (w.alloc (.cells #[.int .i64 n, .slice A ln c] 24)) wr) (fun iv _ => ln - (intOf iv).toNat)
  case atStart => exact ⟨0, Nat.zero_le _, rfl, rfl, (by simpa using Below.refl _ _)⟩
  case round =>
    obtain ⟨k, hk, rfl, hf, hbel⟩ := hrel
    have hb1 := K.out.2.1.below hbel (by omega)
    have hg1 := gr_call K.out.1 (by simpa using hbel : Below (w.alloc (.cells #[.int .i64 n, .slice A ln c] 24)).heap.size _ wr)
    have r0 := hb1.cell' (i := 0) rfl
    have r1 := hb1.cell' (i := 1) rfl
    by_cases hlt : k < ln
    · obtain ⟨e, hp⟩ : ∃ e, l[k]? = some e := ⟨_, List.getElem?_eq_getElem (by rw [← HN.out]; exact hlt)⟩
      have hA1 : Cells wr A 2 ln (edAt l) := K.out.2.2.below (by simpa using hbel)
      rw [HN.out] at hA1
      obtain ⟨ab, ao, rfl, hab, c0, c1⟩ := cells_edg hA1 hp
      have hst := chkE_step (n := n) hp
      have bz := hbel.size
      have hwl := hb1.lt
      have e0 := Blk.new wr 57 #[.int .i64 e.f, .int .i64 e.t]
      have b1 := hb1.alloc (.cells #[.int .i64 e.f, .int .i64 e.t] 57)
      have B := Lib.hid (And.intro hf (And.intro hbel (And.intro hp (And.intro hst (And.intro hA1 (And.intro hb1 (And.intro hg1 e0)))))))
      clear hf hbel hp hst hA1 hb1 hg1 e0
      rcases node_ways n e with ⟨a1, hno⟩ | ⟨a1, a2, hno⟩ | ⟨a1, a2, a3, hno⟩ | ⟨a1, a2, a3, a4, hno⟩ | ⟨a1, a2, a3, a4, hno⟩
      · have hst : chkE n none 0 l = (2, k) := by rw [B.out.1, B.out.2.2.2.1, hno]; rfl
        have D := Lib.hid hst
        clear hno hst
        go_wp2_with (fail)
        go_ret2
        exact ⟨by rw [D.out]; rfl, gr_alloc B.out.2.2.2.2.2.2.1 _⟩
      · have hst : chkE n none 0 l = (2, k) := by rw [B.out.1, B.out.2.2.2.1, hno]; rfl
        have D := Lib.hid hst
        clear hno hst
        go_wp2_with (fail)
        go_ret2
        exact ⟨by rw [D.out]; rfl, gr_alloc B.out.2.2.2.2.2.2.1 _⟩
      · have hst : chkE n none 0 l = (2, k) := by rw [B.out.1, B.out.2.2.2.1, hno]; rfl
        have D := Lib.hid hst
        clear hno hst
        go_wp2_with (fail)
        go_ret2
        exact ⟨by rw [D.out]; rfl, gr_alloc B.out.2.2.2.2.2.2.1 _⟩
      · have hst : chkE n none 0 l = (2, k) := by rw [B.out.1, B.out.2.2.2.1, hno]; rfl
        have D := Lib.hid hst
        clear hno hst
        go_wp2_with (fail)
        go_ret2
        exact ⟨by rw [D.out]; rfl, gr_alloc B.out.2.2.2.2.2.2.1 _⟩
      · have hst : chkE n none 0 l = if badE (prevE l k) e = true then (8, k) else chkE n (prevE l (k + 1)) (k + 1) (l.drop (k + 1)) := by
          rw [B.out.1, B.out.2.2.2.1, if_pos hno]
        have lw : Below (w.heap.size + 1) (w.alloc (.cells #[.int .i64 n, .slice (some ⟨ab, ao, none⟩) ln c] 24)) (wr.alloc (.cells #[.int .i64 e.f, .int .i64 e.t] 57)) :=
          B.out.2.1.alloc (by simpa using B.out.2.1.size) _
        have D := Lib.hid (And.intro hst lw)
        clear hno hst lw
        by_cases hk0 : k = 0
        · subst hk0
          simp only [Nat.zero_mul, Nat.add_zero] at c0 c1
          go_wp2_with (fail)
          go_region
          all_goals
            go_wp2_with (fail)
            go_roundw
            case rel => exact ⟨1, hlt, rfl, by rw [D.out.1]; rfl, ⟨D.out.2.os, D.out.2.tape, D.out.2.output, D.out.2.size, D.out.2.block⟩⟩
            case measure => simp [intOf]; omega
        · obtain ⟨m, hm⟩ : ∃ m, k = m + 1 := ⟨k - 1, by omega⟩
          have w1 : IntKind.i64.wrap ((k : Int) - 1) = (m : Int) := by rw [IntWalk.i64_in _ (by omega)]; omega
          have hml : m < ln := by omega
          obtain ⟨b, hb⟩ : ∃ b, l[m]? = some b := ⟨_, List.getElem?_eq_getElem (by rw [← HN.out]; exact hml)⟩
          obtain ⟨_, _, hab2, _, q0, q1⟩ := cells_edg (B.out.2.2.2.2.1.below (gr_alloc (Below.refl _ _) (.cells #[.int .i64 e.f, .int .i64 e.t] 57))) hb
          cases hab2
          have hpr : prevE l k = some b := by rw [hm]; exact hb
          have kpos : 0 < k := by omega
          have l3 : Below (w.heap.size + 1) (w.alloc (.cells #[.int .i64 n, .slice (some ⟨ab, ao, none⟩) ln c] 24)) (((wr.alloc (.cells #[.int .i64 e.f, .int .i64 e.t] 57)).alloc (.cells #[.int .i64 b.f, .int .i64 b.t] 57)).alloc (.cells #[.int .i64 e.f, .int .i64 e.t] 57)) :=
            (D.out.2.alloc (by have := D.out.2.size; simp at this ⊢; omega) _).alloc (by have := D.out.2.size; simp at this ⊢; omega) _
          have g3 := gr_alloc (gr_alloc (gr_alloc B.out.2.2.2.2.2.2.1 (.cells #[.int .i64 e.f, .int .i64 e.t] 57)) (.cells #[.int .i64 b.f, .int .i64 b.t] 57)) (.cells #[.int .i64 e.f, .int .i64 e.t] 57)
          have L3 := Lib.hid (And.intro l3 g3)
          have D3 := Lib.hid (And.intro hm (And.intro hb hpr))
          clear hm hb hpr l3 g3
          go_wp2_with (fail)
          go_region_law (go_simp; go_at_call 54; refine (before_ref b e _).mono ?_; rintro r w' ⟨rfl, rfl⟩)
          all_goals
            cases hbd : badE (some b) e
            · have hst2 : chkE n none 0 l = chkE n (prevE l (k + 1)) (k + 1) (l.drop (k + 1)) := by
                rw [D.out.1, if_neg (by rw [D3.out.2.2, hbd]; decide)]
              have D4 := Lib.hid hst2
              clear hst2 hbd
              go_wp2_with (fail)
              go_roundw
              case rel => exact ⟨k + 1, hlt, rfl, D4.out, ⟨L3.out.1.os, L3.out.1.tape, L3.out.1.output, L3.out.1.size, L3.out.1.block⟩⟩
              case measure => simp [intOf]; omega
            · have hst2 : chkE n none 0 l = (8, k) := by
                rw [D.out.1, if_pos (by rw [D3.out.2.2, hbd])]
              have D4 := Lib.hid hst2
              clear hst2 hbd
              go_wp2_with (fail)
              go_ret2
              exact ⟨by rw [D4.out]; rfl, ⟨L3.out.2.os, L3.out.2.tape, L3.out.2.output, L3.out.2.size, L3.out.2.block⟩⟩
    · have B := Lib.hid (And.intro hf hg1)
      clear hf hbel hg1
      go_wp2_with (fail)
      go_ret2
      refine ⟨?_, B.out.2⟩
      rw [B.out.1, List.drop_of_length_le (by rw [← HN.out]; omega)]
      rfl

theorem rcheck (n : Int) (l : List Edg) (hl : l.length ≤ 1000000) (A : Option Addr) (c : Nat) (w : World) (hA : Cells w A 2 l.length (edAt l)) :
    Calls Try.prog 22 #[.agg #[.int .i64 n, .slice A l.length c]] w fun e w' => e = .returned (.tuple #[.int .i64 (chkG n l).1, .int .i64 ((chkG n l).2 : Int)]) ∧ Below w.heap.size w w' := by
  by_cases h : outN n = true
  · unfold chkG; rw [if_pos h]; exact rcheck_out n _ w h
  · unfold chkG; rw [if_neg h]; exact rcheck_in n l hl A c w (by rwa [Bool.not_eq_true] at h) hA
end Go.Proofs.Ytjgkiiohbceocaa
