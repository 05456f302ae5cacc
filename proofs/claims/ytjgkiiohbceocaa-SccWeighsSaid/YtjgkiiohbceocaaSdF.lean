/-
  Words of bits for scc.Path, and its loops as plain functions; no program is in sight.
  scc.Path, walked; conditions: at most 1000000 edges.
  What Heaviest answers, as plain functions; no program is in sight.
-/
import Derived.Test.YtjgkiiohbceocaaSdC
namespace Go.Proofs.Ytjgkiiohbceocaa
set_option linter.unusedVariables false
set_option linter.unusedSimpArgs false

/-- The word of a set of nodes. -/
def pW (p : Nat → Bool) : Nat := setW p 0
theorem pW_lt (p : Nat → Bool) : pW p < 18446744073709551616 := setW_lt _ _
theorem pW_bit (p : Nat → Bool) (k : Nat) : (pW p).testBit k = (decide (k < 64) && p k) := by
  unfold pW
  rw [setW_bit, Nat.mul_zero, Nat.zero_add]
theorem pW_ext {p q : Nat → Bool} (h : ∀ k, k < 64 → p k = q k) : pW p = pW q := by
  apply Nat.eq_of_testBit_eq
  intro k
  rw [pW_bit, pW_bit]
  by_cases hk : k < 64
  · rw [h k hk]
  · rw [decide_eq_false hk, Bool.false_and, Bool.false_and]
theorem pW_none {p : Nat → Bool} (h : ∀ k, p k = false) : pW p = 0 := by
  apply Nat.eq_of_testBit_eq
  intro k
  rw [pW_bit, h k, Bool.and_false, Nat.zero_testBit]
theorem pW_one {t : Nat} (ht : t < 64) : pW (fun k => decide (k = t)) = 2 ^ t := by
  apply Nat.eq_of_testBit_eq
  intro k
  rw [pW_bit, Nat.testBit_two_pow]
  by_cases e : k = t
  · subst e; simp [ht]
  · rw [decide_eq_false e, Bool.and_false, decide_eq_false (show ¬ t = k from fun h => e h.symm)]
theorem pW_or {p q : Nat → Bool} {i : Nat} (hi : i < 64) (h1 : q i = true) (h2 : ∀ k, k ≠ i → q k = p k) : pW p ||| 2 ^ i = pW q := by
  apply Nat.eq_of_testBit_eq
  intro k
  rw [Nat.testBit_or, pW_bit, pW_bit, Nat.testBit_two_pow]
  by_cases e : k = i
  · subst e; rw [h1]; simp [hi]
  · rw [h2 k e, decide_eq_false (show ¬ i = k from fun h => e h.symm), Bool.or_false]
theorem and_test {n : Nat} (hn : n ≤ 64) {E : Nat → Nat → Bool} (hw : Within n E) (i : Nat) (p : Nat → Bool) :
    (bits .and .u64 (rowW E i : Int) (pW p : Int) != 0) = (List.range n).any fun k => E i k && p k := by
  rw [u64_and_nat _ _ (rowW_lt _ _) (pW_lt _), Bool.eq_iff_iff, List.any_eq_true]
  have hb : ∀ k, (rowW E i &&& pW p).testBit k = (decide (k < 64) && (E i k && p k)) := by
    intro k
    rw [Nat.testBit_and, pW_bit]
    by_cases hk : k < 64
    · rw [rowW_bit _ _ _ hk, decide_eq_true hk, Bool.true_and, Bool.true_and]
    · rw [decide_eq_false hk, Bool.false_and, Bool.false_and, Bool.and_false]
  constructor
  · intro h
    have h0 : rowW E i &&& pW p ≠ 0 := by intro e; rw [e] at h; simp at h
    refine Classical.byContradiction fun hno => h0 ?_
    apply Nat.eq_of_testBit_eq
    intro k
    rw [hb, Nat.zero_testBit]
    cases e : (E i k && p k) with
    | false => rw [Bool.and_false]
    | true =>
      have e' := e
      rw [Bool.and_eq_true] at e'
      exact absurd ⟨k, List.mem_range.2 (hw i k e'.1).2, e⟩ hno
  · rintro ⟨k, hk, h⟩
    have h64 : k < 64 := by have := List.mem_range.1 hk; omega
    have := hb k
    rw [h, decide_eq_true h64] at this
    have h0 : rowW E i &&& pW p ≠ 0 := by intro e; rw [e, Nat.zero_testBit] at this; cases this
    simp only [bne_iff_ne, ne_eq]
    omega

/-! One round of the far loop, as far as node i. -/
def nxP (n : Nat) (E : Nat → Nat → Bool) (t d i k : Nat) : Bool := decide (k < i) && wlk n E (d + 1) k t
def frT (n : Nat) (E : Nat → Nat → Bool) (t d i k : Nat) : Nat := if k < i then farS n E t (d + 1) k else farS n E t d k
theorem nxP_hit {n : Nat} {E : Nat → Nat → Bool} {t d i : Nat} (hi : i < 64) (h : wlk n E (d + 1) i t = true) : pW (nxP n E t d i) ||| 2 ^ i = pW (nxP n E t d (i + 1)) := by
  refine pW_or hi ?_ (fun k hk => ?_)
  · unfold nxP; rw [h, decide_eq_true (Nat.lt_succ_self i)]; rfl
  · unfold nxP
    congr 1
    rw [Bool.eq_iff_iff, decide_eq_true_eq, decide_eq_true_eq]; omega
theorem nxP_miss {n : Nat} {E : Nat → Nat → Bool} {t d i : Nat} (h : wlk n E (d + 1) i t = false) : pW (nxP n E t d (i + 1)) = pW (nxP n E t d i) := by
  refine pW_ext (fun k _ => ?_)
  unfold nxP
  by_cases e : k = i
  · subst e; rw [h, Bool.and_false, Bool.and_false]
  · congr 1
    rw [Bool.eq_iff_iff, decide_eq_true_eq, decide_eq_true_eq]; omega
theorem nxP_zero (n : Nat) (E : Nat → Nat → Bool) (t d : Nat) : pW (nxP n E t d 0) = 0 := pW_none fun k => by unfold nxP; rw [decide_eq_false (Nat.not_lt_zero k)]; rfl
theorem nxP_all {n : Nat} {E : Nat → Nat → Bool} (hw : Within n E) {t d : Nat} : pW (nxP n E t d n) = pW (fun k => wlk n E (d + 1) k t) := by
  refine pW_ext (fun k _ => ?_)
  unfold nxP
  cases e : wlk n E (d + 1) k t with
  | false => rw [Bool.and_false]
  | true =>
    obtain ⟨x, h1, _⟩ := (wlk_succ hw).1 e
    rw [decide_eq_true (hw k x h1).1]; rfl
theorem frT_zero (n : Nat) (E : Nat → Nat → Bool) (t d k : Nat) : frT n E t d 0 k = farS n E t d k := by unfold frT; rw [if_neg (Nat.not_lt_zero k)]
theorem frT_all {n : Nat} {E : Nat → Nat → Bool} {t d k : Nat} (h : k < n) : frT n E t d n k = farS n E t (d + 1) k := by unfold frT; rw [if_pos h]
theorem frT_at (n : Nat) (E : Nat → Nat → Bool) (t d i : Nat) : frT n E t d i i = farS n E t d i := by unfold frT; rw [if_neg (Nat.lt_irrefl i)]
theorem frT_far {n : Nat} {E : Nat → Nat → Bool} {t d i k : Nat} (h : k ≠ i) : frT n E t d (i + 1) k = frT n E t d i k := by
  unfold frT
  by_cases h1 : k < i
  · rw [if_pos h1, if_pos (by omega)]
  · rw [if_neg h1, if_neg (by omega)]
theorem frT_new {n : Nat} {E : Nat → Nat → Bool} {t d i : Nat} (h1 : wlk n E (d + 1) i t = true) (h0 : farS n E t d i = 0) : frT n E t d (i + 1) i = d + 1 := by
  unfold frT
  rw [if_pos (Nat.lt_succ_self i)]
  show (if (decide (farS n E t d i = 0) && wlk n E (d + 1) i t) = true then d + 1 else farS n E t d i) = _
  rw [h1, decide_eq_true h0]; rfl
theorem frT_old {n : Nat} {E : Nat → Nat → Bool} {t d i k : Nat} (h : wlk n E (d + 1) i t = false ∨ farS n E t d i ≠ 0) : frT n E t d (i + 1) k = frT n E t d i k := by
  by_cases e : k = i
  · subst e
    rw [frT_at]
    unfold frT
    rw [if_pos (Nat.lt_succ_self k)]
    show (if (decide (farS n E t d k = 0) && wlk n E (d + 1) k t) = true then d + 1 else farS n E t d k) = _
    rcases h with h | h
    · rw [h, Bool.and_false]; rfl
    · rw [decide_eq_false h, Bool.false_and]; rfl
  · exact frT_far e

/-! The greedy loop. -/
def hitG (E : Nat → Nat → Bool) (F : Nat → Nat) (at_ d i : Nat) : Bool := E at_ i && decide (F i = d)
theorem gre_hit {n : Nat} {E : Nat → Nat → Bool} {F : Nat → Nat} {d a i : Nat} (hi : i < n) (h : hitG E F a (d + 1) i = true) (hb : ∀ k, k < i → hitG E F a (d + 1) k = false) : gre n E F (d + 1) a = i :: gre n E F d i := by
  have hf : (List.range n).find? (fun i => E a i && decide (F i = d + 1)) = some i := by
    rw [List.find?_range_eq_some]
    exact ⟨h, List.mem_range.2 hi, fun k hk => by rw [Bool.not_eq_true']; exact hb k hk⟩
  show (match (List.range n).find? (fun i => E a i && decide (F i = d + 1)) with | some i => i :: gre n E F d i | none => gre n E F d a) = _
  rw [hf]
theorem gre_miss {n : Nat} {E : Nat → Nat → Bool} {F : Nat → Nat} {d a : Nat} (hb : ∀ k, k < n → hitG E F a (d + 1) k = false) : gre n E F (d + 1) a = gre n E F d a := by
  have hf : (List.range n).find? (fun i => E a i && decide (F i = d + 1)) = none := by
    rw [List.find?_eq_none]
    intro k hk
    have := hb k (List.mem_range.1 hk)
    unfold hitG at this
    rw [this]; decide
  show (match (List.range n).find? (fun i => E a i && decide (F i = d + 1)) with | some i => i :: gre n E F d i | none => gre n E F d a) = _
  rw [hf]
theorem gre_len (n : Nat) (E : Nat → Nat → Bool) (F : Nat → Nat) : ∀ (d a : Nat), (gre n E F d a).length ≤ d
  | 0, _ => Nat.le_refl _
  | d + 1, a => by
    show (match (List.range n).find? (fun i => E a i && decide (F i = d + 1)) with | some i => i :: gre n E F d i | none => gre n E F d a).length ≤ d + 1
    split
    · rw [List.length_cons]; exact Nat.succ_le_succ (gre_len n E F d _)
    · exact Nat.le_succ_of_le (gre_len n E F d _)
theorem last_cons (a : Nat) (l : List Nat) : (a :: l)[l.length]? = some (lastOf a l) := by
  by_cases h : l = []
  · subst h; rfl
  · obtain ⟨p, x, rfl⟩ : ∃ p x, l = p ++ [x] := ⟨l.dropLast, l.getLast h, (List.dropLast_concat_getLast h).symm⟩
    rw [lastOf_snoc, List.length_append, List.length_singleton, ← List.cons_append, List.getElem?_append_right (by simp)]; simp

/-- What Path answers. -/
def ePath (n : Int) (l : List Edg) (a b : Int) : Int := if (chkG n l).1 = 0 then (if (0 ≤ a ∧ 0 ≤ b) ∧ a < n ∧ b < n then (if rR n l a.toNat b.toNat = true then 0 else 3) else 2) else (chkG n l).1
def pathV (n : Nat) (E : Nat → Nat → Bool) (a b : Nat) : List Nat := a :: (gre n E (farS n E b n) (farS n E b n a - 1) a ++ [b])
def vPath (n : Int) (l : List Edg) (a b : Int) : List Nat := if ePath n l a b = 0 then pathV n.toNat (relE l) a.toNat b.toNat else []
end Go.Proofs.Ytjgkiiohbceocaa
namespace Go.Proofs.Ytjgkiiohbceocaa
open Go.RowKit
set_option linter.unusedVariables false
set_option linter.unusedSimpArgs false

theorem new_nat (W : World) (a : Nat) : OwnN (W.alloc (.cells #[.int .i64 (a : Int)] 3)) W.heap.size (.slice (some ⟨W.heap.size, 0, none⟩) 1 1) [a] :=
  ⟨rfl, .inr ⟨W.heap.size, 1, #[.int .i64 (a : Int)], rfl, Nat.le_refl _, heap_alloc_new W _, Nat.le_refl _, by decide, rfl, by simp [natC]⟩⟩

set_option maxRecDepth 100000 in
set_option maxHeartbeats 8000000 in
theorem path_ok (m : Nat) (hm : m ≤ 64) (l : List Edg) (hl : l.length ≤ 1000000) (hv : ∀ e ∈ l, okEd m e) (he : (chkG m l).1 = 0) (a b : Nat) (ha : a < m) (hb : b < m) (hr : rea m (relE l) a b = true) (A : Option Addr) (c : Nat) (w : World) (hA : Cells w A 2 l.length (edAt l)) :
    Calls Try.prog 15 #[.agg #[.int .i64 (m : Int), .slice A l.length c], .int .i64 (a : Int), .int .i64 (b : Int)] w fun e w' => ∃ v, e = .returned (.tuple #[v, .int .i64 0]) ∧ NatsAt w' v (pathV m (relE l) a b) ∧ Below w.heap.size w w' := by
  have b0 := gr_alloc (Below.refl w.heap.size w) (.cells #[.int .i64 (m : Int), .slice A l.length c] 24)
  have hA0 := hA.below b0
  have hw := relE_within hv
  have hmd := made_code m hm l hl hv he A c _ hA0
  obtain ⟨E, hE⟩ : ∃ E, E = relE l := ⟨_, rfl⟩
  have hmd' : Calls Try.prog 43 #[.agg #[.int .i64 (m : Int), .slice A l.length c]] (w.alloc (.cells #[.int .i64 (m : Int), .slice A l.length c] 24)) fun e w' => ∃ bg bl pv kv, e = .returned (.tuple #[.pointer (some ⟨bg, 0, none⟩), .int .i64 0]) ∧ GrOk w' bg bl m E pv kv ∧ Below (w.alloc (.cells #[.int .i64 (m : Int), .slice A l.length c] 24)).heap.size (w.alloc (.cells #[.int .i64 (m : Int), .slice A l.length c] 24)) w' := by
    refine hmd.mono ?_
    rintro e w' ⟨bg, bl, pv, kv, h1, h2, h3⟩
    exact ⟨bg, bl, pv, kv, h1, by rw [hE]; exact h2.gr, h3⟩
  rw [← hE] at hw hr ⊢
  obtain ⟨ln, hln⟩ : ∃ ln, ln = l.length := ⟨_, rfl⟩
  rw [← hln] at hmd' b0 ⊢
  have hfar := (far_iff hw).1 hr
  have hbd := farS_bound hw (t := b) (i := a) (N := m)
  have hmk := fun W => mk_vec (t := 25) (z := .int .i64 0) Try.underlying25 infoInt rfl (by decide) m (by omega) W
  have H := Lib.hid (And.intro b0 (And.intro hmd' (And.intro hw (And.intro hr (And.intro hfar hbd)))))
  clear b0 hmd hmd' hA0 hA hE hln hl he hv hw hr hfar hbd
  have hk1 : ¬ min (a : Int) (b : Int) < 0 := by omega
  have hk2 : ¬ (m : Int) ≤ max (a : Int) (b : Int) := by omega
  have hk3 : max (a : Int) (b : Int) < (m : Int) := by omega
  have ha6 : a < 64 := by omega
  have hb6 : b < 64 := by omega
  have hb7 : (b : Int) < 64 := by omega
  have ha7 : (a : Int) < (m : Int) := by omega
  have wb : IntKind.u64.wrap (b : Int) = (b : Int) := IntWalk.u64_in _ (by omega)
  go_enter Try.func15, Try.ntmps15
  go_wp2_with (fail)
  refine H.out.2.1.mono ?_
  rintro e W1 ⟨bg, bl, pv, kv, rfl, hg, h2⟩
  have c0 := hg.gr.cell' (i := 0) rfl
  have c1 := hg.gr.cell' (i := 1) rfl
  have lg := hg.gr.lt
  have hgo := goes_code bl 79 _ (rea m E) a b W1 hg.ln (lnkC_reach E (rea m E) ha6) ha6 hb6
  rw [H.out.2.2.2.1] at hgo
  have D := Lib.hid (And.intro hg (And.intro (gr_call H.out.1 h2) hgo))
  clear hg h2 hgo
  go_wp2_with (fail)
  refine D.out.2.2.mono ?_
  rintro e W2 ⟨rfl, rfl⟩
  have hm1 := hmk W1
  have kL := Blk.new W1 3 (numC m fun _ => 0)
  have hbL := gr_alloc (Below.refl W1.heap.size W1) (.cells (numC m fun _ => 0) 3)
  have c1L := (D.out.1.gr.call hbL).cell' (i := 1) rfl
  have lgL := (D.out.1.gr.call hbL).lt
  have N := Lib.hid (And.intro kL hbL)
  clear kL hbL hmk
  go_wp2_with (fail)
  have h2b : 2 ^ b < 18446744073709551616 := Nat.lt_of_lt_of_le (Nat.pow_lt_pow_right (by decide) hb6) (by decide)
  have hw2 : IntKind.u64.wrap (2 ^ b) = ((pW (fun k => wlk m E 0 k b) : Nat) : Int) := by
    rw [show (2 : Int) ^ b = ((2 ^ b : Nat) : Int) by simp, wrap_nat h2b, ← pW_one hb6]
    rfl
  rw [hw2]
  clear hw2 h2b
  go_loopg [12, 11] m (fun q iv sv wr => ∃ d : Nat, q = m - d ∧ d ≤ m ∧ iv = .int .i64 ((d + 1 : Nat) : Int) ∧ sv = .int .u64 ((pW (fun k => wlk m E d k b) : Nat) : Int) ∧ Below W1.heap.size W1 wr ∧ Blk wr W1.heap.size 3 (numC m (farS m E b d)))
  case atStart => exact ⟨0, rfl, Nat.zero_le _, rfl, rfl, N.out.2, N.out.1⟩
  case round =>
    obtain ⟨d, hq, hd, rfl, rfl, hbel, hfr⟩ := hrel
    have hgw := D.out.1.below hbel D.out.1.gr.lt D.out.1.ln.lt
    have c1' := hgw.gr.cell' (i := 1) rfl
    have lg' := hgw.gr.lt
    by_cases hdm : d < m
    · have hd1 : ((d + 1 : Nat) : Int) ≤ (m : Int) := by omega
      have wd : IntKind.i64.wrap (((d + 1 : Nat) : Int) + 1) = ((d + 1 + 1 : Nat) : Int) := (IntWalk.i64_in _ (by omega)).trans (by simp)
      obtain ⟨D1, hD1⟩ : ∃ D1, D1 = ((d + 1 : Nat) : Int) := ⟨_, rfl⟩
      obtain ⟨P, hP⟩ : ∃ P, P = pW (fun k => wlk m E d k b) := ⟨_, rfl⟩
      have hPl : P < 18446744073709551616 := by rw [hP]; exact pW_lt _
      have hP0 : 0 ≤ (P : Int) := by omega
      have hP1 : (P : Int) < 18446744073709551616 := by omega
      rw [← hD1] at hd1 wd ⊢
      rw [← hP]
      have B := Lib.hid (And.intro hq (And.intro hD1 (And.intro hP (And.intro hbel hfr))))
      clear hq hbel hfr hgw hD1 hP hPl
      go_wp2_with (fail)
      go_loopg [72, 13] m (fun q iv nv wr => ∃ i : Nat, q = m - i ∧ i ≤ m ∧ iv = .int .i64 (i : Int) ∧ nv = .int .u64 ((pW (nxP m E b d i) : Nat) : Int) ∧ Below W1.heap.size W1 wr ∧ Blk wr W1.heap.size 3 (numC m (frT m E b d i)))
      case atStart =>
        refine ⟨0, rfl, Nat.zero_le _, rfl, by rw [nxP_zero]; rfl, B.out.2.2.2.1, ?_⟩
        rw [numC_congr (f := frT m E b d 0) (g := farS m E b d) (fun k _ => (frT_zero m E b d k).symm)]
        exact B.out.2.2.2.2
      case round =>
        obtain ⟨i, hq, hi, rfl, rfl, hbel, hfr⟩ := hrel
        by_cases him : i < m
        · have him' : (i : Int) < (m : Int) := by omega
          have hi6 : i < 64 := by omega
          have hi7 : (i : Int) < 64 := by omega
          have wi : IntKind.u64.wrap (i : Int) = (i : Int) := IntWalk.u64_in _ (by omega)
          have hgw := D.out.1.below hbel D.out.1.gr.lt D.out.1.ln.lt
          have d0 := hgw.gr.cell' (i := 0) rfl
          have ldg := hgw.gr.lt
          have cx := hgw.ln.cell' (lnkC_next E (rea m E) hi6)
          have xl := hgw.ln.lt
          have hat := and_test hm H.out.2.2.1 i (fun k => wlk m E d k b)
          rw [← B.out.2.2.1, show ((List.range m).any fun k => E i k && wlk m E d k b) = wlk m E (d + 1) i b from rfl] at hat
          have cf := hfr.cell' (vecC_at (fun k => .int .i64 ((frT m E b d i k : Nat) : Int)) him)
          rw [frT_at] at cf
          have ff := hfr.frozen i
          have lf := hfr.lt
          obtain ⟨X, hX⟩ : ∃ X, X = rowW E i := ⟨_, rfl⟩
          have hXl : X < 18446744073709551616 := by rw [hX]; exact rowW_lt _ _
          have hX0 : 0 ≤ (X : Int) := by omega
          have hX1 : (X : Int) < 18446744073709551616 := by omega
          rw [← hX] at cx hat
          obtain ⟨Nx, hNx⟩ : ∃ Nx, Nx = pW (nxP m E b d i) := ⟨_, rfl⟩
          have hNl : Nx < 18446744073709551616 := by rw [hNx]; exact pW_lt _
          have hN0 : 0 ≤ (Nx : Int) := by omega
          have hN1 : (Nx : Int) < 18446744073709551616 := by omega
          rw [← hNx]
          cases hk : wlk m E (d + 1) i b with
          | true =>
            rw [hk] at hat
            have hnh := nxP_hit (n := m) (E := E) (t := b) (d := d) hi6 hk
            rw [← hNx] at hnh
            have h2i : 2 ^ i < 18446744073709551616 := Nat.lt_of_lt_of_le (Nat.pow_lt_pow_right (by decide) hi6) (by decide)
            have hor : bits .or .u64 (Nx : Int) (IntKind.u64.wrap (2 ^ i)) = ((pW (nxP m E b d (i + 1)) : Nat) : Int) := by
              rw [show (2 : Int) ^ i = ((2 ^ i : Nat) : Int) by simp, wrap_nat h2i, u64_or_nat _ _ hNl h2i, hnh]
            by_cases h0 : farS m E b d i = 0
            · have hnew := frT_new hk h0
              rw [h0] at cf
              have F := Lib.hid (And.intro hor (And.intro hnew (And.intro hbel (And.intro hfr hq))))
              clear hor hnew hbel hfr hq hgw hk hX hNx hXl hNl hnh h2i h0
              go_wp2_with (fail)
              go_roundg (m - (i + 1))
              case measure => have := F.out.2.2.2.2; omega
              case rel =>
                have hbb := gr_set F.out.2.2.1 (p := ⟨W1.heap.size, i, none⟩) (Nat.le_refl _) (.int .i64 D1)
                refine ⟨i + 1, rfl, him, by simp, by rw [F.out.1], hbb, ?_⟩
                rw [B.out.2.1]
                rw [← numC_set (f := frT m E b d i) (g := frT m E b d (i + 1)) him F.out.2.1 (fun k' _ hk' => frT_far hk')]
                exact F.out.2.2.2.1.set_ i (.int .i64 ((d + 1 : Nat) : Int))
            · have hold := fun k => frT_old (n := m) (E := E) (t := b) (d := d) (i := i) (k := k) (.inr h0)
              obtain ⟨y, hy⟩ : ∃ y, y = farS m E b d i := ⟨_, rfl⟩
              rw [← hy] at cf h0
              have hy0 : ((y : Int) == 0) = false := by simp; omega
              have F := Lib.hid (And.intro hor (And.intro hold (And.intro hbel (And.intro hfr hq))))
              clear hor hold hbel hfr hq hgw hk hX hNx hXl hNl hnh h2i hy
              go_wp2_with (fail)
              go_roundg (m - (i + 1))
              case measure => have := F.out.2.2.2.2; omega
              case rel =>
                refine ⟨i + 1, rfl, him, by simp, by rw [F.out.1], F.out.2.2.1, ?_⟩
                rw [numC_congr (f := frT m E b d (i + 1)) (g := frT m E b d i) (fun k _ => (F.out.2.1 k).symm)]
                exact F.out.2.2.2.1
          | false =>
            rw [hk] at hat
            have hnm := nxP_miss (n := m) (E := E) (t := b) (d := d) hk
            have hold := fun k => frT_old (n := m) (E := E) (t := b) (d := d) (i := i) (k := k) (.inl hk)
            rw [← hNx] at hnm
            have F := Lib.hid (And.intro hnm (And.intro hold (And.intro hbel (And.intro hfr hq))))
            clear hnm hold hbel hfr hq hgw hk hX hNx hXl hNl
            go_wp2_with (fail)
            go_roundg (m - (i + 1))
            case measure => have := F.out.2.2.2.2; omega
            case rel =>
              refine ⟨i + 1, rfl, him, by simp, by rw [F.out.1], F.out.2.2.1, ?_⟩
              rw [numC_congr (f := frT m E b d (i + 1)) (g := frT m E b d i) (fun k _ => (F.out.2.1 k).symm)]
              exact F.out.2.2.2.1
        · have ei : i = m := by omega
          subst i
          have hall := nxP_all H.out.2.2.1 (t := b) (d := d)
          have F := Lib.hid (And.intro hbel (And.intro hfr (And.intro hq hall)))
          clear hbel hfr hq hall him
          go_wp2_with (fail)
          go_roundg (m - (d + 1))
          case measure => have := B.out.1; omega
          case rel =>
            refine ⟨d + 1, rfl, hdm, by simp, by rw [F.out.2.2.2], F.out.1, ?_⟩
            rw [numC_congr (f := farS m E b (d + 1)) (g := frT m E b d m) (fun k hk => frT_all hk)]
            exact F.out.2.1
    · have ed : d = m := by omega
      subst d
      rename World => W3
      have hd1 : ¬ ((m + 1 : Nat) : Int) ≤ (m : Int) := by omega
      have cf := hfr.cell' (vecC_at (fun k => .int .i64 ((farS m E b m k : Nat) : Int)) ha)
      have lf := hfr.lt
      obtain ⟨y, hy⟩ : ∃ y, y = farS m E b m a := ⟨_, rfl⟩
      rw [← hy] at cf
      have hy1 : 1 ≤ y := by have := H.out.2.2.2.2.1; omega
      have hy64 : y ≤ m := by rw [hy]; exact H.out.2.2.2.2.2
      have wy : IntKind.i64.wrap ((y : Int) - 1) = ((y - 1 : Nat) : Int) := (IntWalk.i64_in _ (by omega)).trans (by omega)
      obtain ⟨M1, hM1⟩ : ∃ M1, M1 = ((m + 1 : Nat) : Int) := ⟨_, rfl⟩
      obtain ⟨P, hP⟩ : ∃ P, P = pW (fun k => wlk m E m k b) := ⟨_, rfl⟩
      rw [← hM1] at hd1 ⊢
      rw [← hP]
      have hbel2 := gr_alloc hbel (.cells #[.int .i64 (a : Int)] 3)
      have hfr2 := hfr.alloc (.cells #[.int .i64 (a : Int)] 3)
      have cf2 := hfr2.cell' (vecC_at (fun k => .int .i64 ((farS m E b m k : Nat) : Int)) ha)
      rw [← hy] at cf2
      have lf2 := hfr2.lt
      have hown : OwnN (W3.alloc (.cells #[.int .i64 (a : Int)] 3)) W3.heap.size (.slice (some ⟨W3.heap.size, 0, none⟩) 1 1) ([a]) := new_nat W3 a
      have B := Lib.hid (And.intro hbel2 (And.intro hfr2 (And.intro hy (And.intro hown (And.intro hM1 (And.intro hbel hfr))))))
      clear hbel hfr hq hgw hdm hbel2 hfr2 hown hy hM1 hP
      go_wp2_with (fail)
      obtain ⟨F, hF⟩ : ∃ F, F = farS m E b m := ⟨_, rfl⟩
      have hV : pathV m E a b = a :: (gre m E F (y - 1) a ++ [b]) := by
        unfold pathV
        rw [hF, B.out.2.2.1]
      have B2 := Lib.hid (And.intro B.out.1 (And.intro (show Blk W3 W1.heap.size 3 (numC m F) by rw [hF]; exact B.out.2.2.2.2.2.2) (And.intro B.out.2.2.2.1 (And.intro hV B.out.2.2.2.2.2.1))))
      clear B hF hV hd1 cf cf2 lf2 c1' lg' wy
      have hm64 : (m : Int) ≤ 64 := by omega
      go_loopg [16, 15] (y - 1) (fun q dv ov wr => ∃ (d : Nat) (pre : List Nat), q = d ∧ d + pre.length ≤ y - 1 ∧ dv = .int .i64 (d : Int) ∧ Below W3.heap.size W3 wr ∧ OwnN wr W3.heap.size ov (a :: pre) ∧ gre m E F (y - 1) a = pre ++ gre m E F d (lastOf a pre) ∧ lastOf a pre < m)
      case atStart => exact ⟨y - 1, [], rfl, by simp, by first | rfl | (congr 1; omega), gr_alloc (Below.refl _ _) _, B2.out.2.2.1, rfl, ha⟩
      case round =>
        obtain ⟨d, pre, hq, hd, rfl, hbel, hown, hgr, hlt⟩ := hrel
        have hgw := D.out.1.below (gr_call B2.out.2.2.2.2 hbel) D.out.1.gr.lt D.out.1.ln.lt
        have hfr := B2.out.2.1.call hbel
        have hpl : pre.length ≤ 64 := by omega
        have bz := hbel.size
        cases d with
        | zero =>
          have hown2 := own_below hown (gr_alloc (Below.refl _ _) (.cells #[.int .i64 (b : Int)] 3)) (Nat.le_refl _)
          have hnc : (wr.alloc (.cells #[.int .i64 (b : Int)] 3)).cell? ⟨wr.heap.size, 0, none⟩ = some (.int .i64 (b : Int)) := (Blk.new wr 3 #[.int .i64 (b : Int)]).cell' rfl
          have G := Lib.hid (And.intro hbel (And.intro hgr (And.intro hown2 (And.intro hnc (show (a :: pre).length ≤ 1000000 by rw [List.length_cons]; omega)))))
          clear hbel hgr hown2 hown hgw hfr hpl hq hd hlt hnc
          have hz : ¬ ((0 : Nat) : Int) > 0 := by omega
          go_wp2_with (at_builtin; refine app_one rfl _ _ (t := 25) rfl W3.heap.size Try.underlying25 infoInt rfl (by decide) _ _ _ rfl G.out.2.2.1 wr.heap.size (.int .i64 (b : Int)) rfl G.out.2.2.2.1 rfl G.out.2.2.2.2 (by simp; omega) ?_)
          intro v' w2 hown' hgrow _
          have hown' : OwnN w2 W3.heap.size v' ((a :: pre) ++ [b]) := by
            unfold OwnN
            rw [natC_snoc, List.length_append]
            exact hown'
          have L := Lib.hid (And.intro hown' ((gr_alloc G.out.1 (.cells #[.int .i64 (b : Int)] 3)).grown hgrow (by simp; omega) (fun q hq => (G.out.2.2.1.lt q hq).1)))
          clear hown' hgrow
          go_wp2_with (fail)
          go_ret2
          refine ⟨_, rfl, ?_, gr_call (gr_call D.out.2.1 B2.out.2.2.2.2) L.out.2⟩
          rw [B2.out.2.2.2.1, G.out.2.1, show gre m E F 0 (lastOf a pre) = [] from rfl, List.append_nil]
          exact L.out.1.at_
        | succ d =>
          obtain ⟨at_, hat⟩ : ∃ x, x = lastOf a pre := ⟨_, rfl⟩
          have hlc := last_cons a pre
          rw [← hat] at hgr hlt hlc
          obtain ⟨g, cap, hov, hgB, hgl, hgc, _, _⟩ := own_cell hown (i := pre.length) (u := .int .i64 (at_ : Int)) (by unfold natC; rw [List.getElem?_map, hlc]; rfl)
          rw [List.length_cons] at hov
          subst hov
          obtain ⟨pl, hpl2⟩ : ∃ pl, pl = pre.length := ⟨_, rfl⟩
          rw [← hpl2] at hgc hpl ⊢
          rw [← hpl2] at hown
          have hpos : ((d + 1 : Nat) : Int) > 0 := by omega
          have wpl : IntKind.i64.wrap (((pl + 1 : Nat) : Int) - 1) = (pl : Int) := (IntWalk.i64_in _ (by omega)).trans (by simp)
          have wpl2 : IntKind.i64.wrap ((pl : Int) + 1 - 1) = (pl : Int) := (IntWalk.i64_in _ (by omega)).trans (by omega)
          have wdd : IntKind.i64.wrap (((d + 1 : Nat) : Int) - 1) = (d : Int) := (IntWalk.i64_in _ (by omega)).trans (by simp)
          obtain ⟨Dd, hDd⟩ : ∃ Dd, Dd = ((d + 1 : Nat) : Int) := ⟨_, rfl⟩
          rw [← hDd] at hpos wdd ⊢
          obtain ⟨pl1, hpl1⟩ : ∃ x, x = pl + 1 := ⟨_, rfl⟩
          rw [← hpl1] at wpl hown ⊢
          have hpp : (pl : Int) < (pl1 : Int) := by omega
          have c1' := hgw.gr.cell' (i := 1) rfl
          have c0' := hgw.gr.cell' (i := 0) rfl
          have lg' := hgw.gr.lt
          have hat6 : at_ < 64 := by omega
          have hat7 : (at_ : Int) < 64 := by omega
          have cx := hgw.ln.cell' (lnkC_next E (rea m E) hat6)
          have xl := hgw.ln.lt
          have hbt0 := fun (i : Nat) (hi : i < 64) => (show (bits .and .u64 ((rowW E at_ : Int) / 2 ^ i) 1 == 1) = E at_ i by rw [bit_test _ _ (rowW_lt _ _), rowW_bit _ _ _ hi])
          obtain ⟨X, hX⟩ : ∃ X, X = rowW E at_ := ⟨_, rfl⟩
          have hXl : X < 18446744073709551616 := by rw [hX]; exact rowW_lt _ _
          have hX0 : 0 ≤ (X : Int) := by omega
          have hX1 : (X : Int) < 18446744073709551616 := by omega
          rw [← hX] at cx hbt0
          have G := Lib.hid (And.intro hq (And.intro hd (And.intro hbel (And.intro hown (And.intro hgr (And.intro hlt (And.intro hgw (And.intro hfr (And.intro hbt0 (And.intro hpl2 (And.intro hDd (And.intro hpl1 hat))))))))))))
          clear hq hd hbel hown hgr hlt hgw hfr hbt0 hpl2 hDd hpl1 hat hlc hX hXl
          rename World => wo
          go_wp2_with (fail)
          go_loopg [124, 15] m (fun q iv sv wr => ∃ i : Nat, q = m - i ∧ i ≤ m ∧ iv = .int .i64 (i : Int) ∧ sv = .slice (some ⟨g, 0, none⟩) pl1 cap ∧ (∀ k, k < i → hitG E F at_ (d + 1) k = false) ∧ wo = wr)
          case atStart => exact ⟨0, rfl, Nat.zero_le _, rfl, rfl, fun k hk => absurd hk (Nat.not_lt_zero k), rfl⟩
          case round =>
            obtain ⟨i, hq, hi, rfl, rfl, hno, rfl⟩ := hrel
            by_cases him : i < m
            · have him' : (i : Int) < (m : Int) := by omega
              have hi6 : i < 64 := by omega
              have hi7 : (i : Int) < 64 := by omega
              have wi : IntKind.u64.wrap (i : Int) = (i : Int) := IntWalk.u64_in _ (by omega)
              have hbt := G.out.2.2.2.2.2.2.2.2.1 i hi6
              have cf := G.out.2.2.2.2.2.2.2.1.cell' (vecC_at (fun k => .int .i64 ((F k : Nat) : Int)) him)
              have lf' := G.out.2.2.2.2.2.2.2.1.lt
              obtain ⟨fi, hfi⟩ : ∃ fi, fi = F i := ⟨_, rfl⟩
              rw [← hfi] at cf
              have hhit : hitG E F at_ (d + 1) i = (E at_ i && decide (fi = d + 1)) := by rw [hfi]; rfl
              cases he : E at_ i with
              | false =>
                rw [he] at hbt hhit
                rw [Bool.false_and] at hhit
                have K := Lib.hid (And.intro hno (And.intro hhit hq))
                clear hno hhit hq he hfi
                go_wp2_with (fail)
                go_roundg (m - (i + 1))
                case measure => have := K.out.2.2; omega
                case rel =>
                  refine ⟨i + 1, rfl, him, by simp, rfl, fun k hk => ?_, by first | rfl | trivial⟩
                  by_cases e : k = i
                  · subst e; exact K.out.2.1
                  · exact K.out.1 k (by omega)
              | true =>
                rw [he] at hbt hhit
                rw [Bool.true_and] at hhit
                have hbt' : bits .and .u64 ((X : Int) / 2 ^ i) 1 = 1 := by simpa using hbt
                by_cases hfd : fi = d + 1
                · rw [decide_eq_true hfd] at hhit
                  have hfe : ((fi : Int) == Dd) = true := by rw [G.out.2.2.2.2.2.2.2.2.2.2.1]; simp; omega
                  have hown2 := own_below G.out.2.2.2.1 (gr_alloc (Below.refl _ _) (.cells #[.int .i64 (i : Int)] 3)) (Nat.le_refl _)
                  have hnc : (wo.alloc (.cells #[.int .i64 (i : Int)] 3)).cell? ⟨wo.heap.size, 0, none⟩ = some (.int .i64 (i : Int)) := (Blk.new wo 3 #[.int .i64 (i : Int)]).cell' rfl
                  have hlen : (a :: pre).length ≤ 1000000 := by rw [List.length_cons]; have := G.out.2.1; omega
                  have hpe : pl1 = (a :: pre).length := by rw [List.length_cons, G.out.2.2.2.2.2.2.2.2.2.2.2.1, G.out.2.2.2.2.2.2.2.2.2.1]
                  have K := Lib.hid (And.intro hno (And.intro hhit (And.intro hown2 (And.intro hnc hlen))))
                  clear hno hhit hq he hfi hfd hown2 hnc hlen hbt
                  go_wp2_with (at_builtin; refine app_one rfl _ _ (t := 25) rfl W3.heap.size Try.underlying25 infoInt rfl (by decide) _ _ _ rfl K.out.2.2.1 wo.heap.size (.int .i64 (i : Int)) rfl K.out.2.2.2.1 rfl K.out.2.2.2.2 (by simp; omega) ?_)
                  intro v' w2 hown' hgrow _
                  have hown' : OwnN w2 W3.heap.size v' ((a :: pre) ++ [i]) := by
                    unfold OwnN
                    rw [natC_snoc, List.length_append]
                    exact hown'
                  have L := Lib.hid (And.intro hown' ((gr_alloc G.out.2.2.1 (.cells #[.int .i64 (i : Int)] 3)).grown hgrow (by simp; omega) (fun q hq => (K.out.2.2.1.lt q hq).1)))
                  clear hown' hgrow
                  go_wp2_with (fail)
                  go_roundg d
                  case measure => have := G.out.1; omega
                  case rel =>
                    refine ⟨d, pre ++ [i], rfl, by have := G.out.2.1; rw [List.length_append, List.length_singleton]; omega, rfl, L.out.2, L.out.1, ?_, by rw [lastOf_snoc]; exact him⟩
                    rw [G.out.2.2.2.2.1, gre_hit him K.out.2.1 K.out.1, lastOf_snoc, List.append_assoc]; rfl
                · rw [decide_eq_false hfd] at hhit
                  have hfe : ((fi : Int) == Dd) = false := by rw [G.out.2.2.2.2.2.2.2.2.2.2.1]; simp; omega
                  have K := Lib.hid (And.intro hno (And.intro hhit hq))
                  clear hno hhit hq he hfi hbt hfd
                  go_wp2_with (fail)
                  go_roundg (m - (i + 1))
                  case measure => have := K.out.2.2; omega
                  case rel =>
                    refine ⟨i + 1, rfl, him, by simp, rfl, fun k hk => ?_, by first | rfl | trivial⟩
                    by_cases e : k = i
                    · subst e; exact K.out.2.1
                    · exact K.out.1 k (by omega)
            · have ei : i = m := by omega
              subst i
              have K := Lib.hid hno
              clear hno hq him
              go_wp2_with (fail)
              go_roundg d
              case measure => have := G.out.1; omega
              case rel =>
                refine ⟨d, pre, rfl, by have := G.out.2.1; omega, rfl, G.out.2.2.1, ?_, ?_, ?_⟩
                · have hpe : pl1 = (a :: pre).length := by rw [List.length_cons, G.out.2.2.2.2.2.2.2.2.2.2.2.1, G.out.2.2.2.2.2.2.2.2.2.1]
                  exact G.out.2.2.2.1
                · rw [G.out.2.2.2.2.1, gre_miss K.out, ← G.out.2.2.2.2.2.2.2.2.2.2.2.2]
                · rw [← G.out.2.2.2.2.2.2.2.2.2.2.2.2]; exact G.out.2.2.2.2.2.1

set_option maxRecDepth 100000 in
set_option maxHeartbeats 4000000 in
theorem path_code (n : Int) (l : List Edg) (f t : Int) (hl : l.length ≤ 1000000) (A : Option Addr) (c : Nat) (w : World) (hA : Cells w A 2 l.length (edAt l)) :
    Calls Try.prog 15 #[.agg #[.int .i64 n, .slice A l.length c], .int .i64 f, .int .i64 t] w fun e w' => ∃ v, e = .returned (.tuple #[v, .int .i64 (ePath n l f t)]) ∧ NatsAt w' v (vPath n l f t) ∧ Below w.heap.size w w' := by
  have b0 := gr_alloc (Below.refl w.heap.size w) (.cells #[.int .i64 n, .slice A l.length c] 24)
  have hA0 := hA.below b0
  by_cases he : (chkG n l).1 = 0
  · have hE : ePath n l f t = if (0 ≤ f ∧ 0 ≤ t) ∧ f < n ∧ t < n then (if rR n l f.toNat t.toNat = true then 0 else 3) else 2 := by unfold ePath; rw [if_pos he]
    have hck := he
    obtain ⟨m, rfl, hm, hv, hw, ht⟩ := ok_nat he
    have hR : rR (m : Int) l = rea m (relE l) := by unfold rR; rw [Int.toNat_natCast]
    have hmd := made_code m hm l hl hv he A c _ hA0
    have hm' : (m : Int) ≤ 64 := by omega
    by_cases hb : (0 ≤ f ∧ 0 ≤ t) ∧ f < (m : Int) ∧ t < (m : Int)
    · rw [if_pos hb, hR] at hE
      obtain ⟨a, rfl⟩ : ∃ a : Nat, f = (a : Int) := ⟨f.toNat, by omega⟩
      obtain ⟨b, rfl⟩ : ∃ b : Nat, t = (b : Int) := ⟨t.toNat, by omega⟩
      have ha : a < m := by omega
      have hb' : b < m := by omega
      rw [Int.toNat_natCast, Int.toNat_natCast] at hE
      cases hr : rea m (relE l) a b with
      | true =>
        rw [hr, if_pos rfl] at hE
        have hV : vPath (m : Int) l (a : Int) (b : Int) = pathV m (relE l) a b := by unfold vPath; rw [hE, if_pos rfl, Int.toNat_natCast, Int.toNat_natCast, Int.toNat_natCast]
        rw [hE, hV]
        exact path_ok m hm l hl hv hck a b ha hb' hr A c w hA
      | false =>
        rw [hr, if_neg (by decide)] at hE
        have hV : vPath (m : Int) l (a : Int) (b : Int) = [] := by unfold vPath; rw [hE, if_neg (by decide)]
        rw [hE, hV]
        obtain ⟨ln, hln⟩ : ∃ ln, ln = l.length := ⟨_, rfl⟩
        rw [← hln] at hmd b0 ⊢
        have H := Lib.hid (And.intro b0 (And.intro hmd hr))
        have hk1 : ¬ min (a : Int) (b : Int) < 0 := by omega
        have hk2 : ¬ (m : Int) ≤ max (a : Int) (b : Int) := by omega
        have hk3 : max (a : Int) (b : Int) < (m : Int) := by omega
        have ha6 : a < 64 := by omega
        have hb6 : b < 64 := by omega
        clear b0 hmd hr hE hV hln hA0 hA hl he hck hv hw ht hR hb
        go_enter Try.func15, Try.ntmps15
        go_wp2_with (fail)
        refine H.out.2.1.mono ?_
        rintro e W1 ⟨bg, bl, pv, kv, rfl, hg, h2⟩
        have c0 := hg.gr.gr.cell' (i := 0) rfl
        have c1 := hg.gr.gr.cell' (i := 1) rfl
        have lg := hg.gr.gr.lt
        have hgo := goes_code bl 79 _ (rea m (relE l)) a b W1 hg.gr.ln (lnkC_reach (relE l) (rea m (relE l)) ha6) ha6 hb6
        rw [H.out.2.2] at hgo
        have D := Lib.hid (And.intro (gr_call H.out.1 h2) hgo)
        clear hg h2 hgo
        go_wp2_with (fail)
        refine D.out.2.mono ?_
        rintro e W2 ⟨rfl, rfl⟩
        go_wp2_with (fail)
        go_ret2
        exact ⟨_, rfl, NatsAt.nil _, D.out.1⟩
    · rw [if_neg hb] at hE
      have hV : vPath (m : Int) l f t = [] := by unfold vPath; rw [hE, if_neg (by decide)]
      rw [hE, hV]
      obtain ⟨ln, hln⟩ : ∃ ln, ln = l.length := ⟨_, rfl⟩
      rw [← hln] at hmd b0 ⊢
      have H := Lib.hid (And.intro b0 hmd)
      clear b0 hmd hE hV hln hA0 hA hl he hck hv hw ht hR
      by_cases h0 : min f t < 0
      · clear hb
        go_enter Try.func15, Try.ntmps15
        go_wp2_with (fail)
        refine H.out.2.mono ?_
        rintro e W1 ⟨bg, bl, pv, kv, rfl, h1, h2⟩
        have c1 := h1.gr.gr.cell' (i := 1) rfl
        have lg := h1.gr.gr.lt
        have D := Lib.hid (gr_call H.out.1 h2)
        clear h1 h2
        go_wp2_with (fail)
        go_ret2
        exact ⟨_, rfl, NatsAt.nil _, D.out⟩
      · have h3 : (m : Int) ≤ max f t := by omega
        have h4 : ¬ max f t < (m : Int) := by omega
        clear hb
        go_enter Try.func15, Try.ntmps15
        go_wp2_with (fail)
        refine H.out.2.mono ?_
        rintro e W1 ⟨bg, bl, pv, kv, rfl, h1, h2⟩
        have c1 := h1.gr.gr.cell' (i := 1) rfl
        have lg := h1.gr.gr.lt
        have D := Lib.hid (gr_call H.out.1 h2)
        clear h1 h2
        go_wp2_with (fail)
        go_ret2
        exact ⟨_, rfl, NatsAt.nil _, D.out⟩
  · have hE : ePath n l f t = (chkG n l).1 := by unfold ePath; rw [if_neg he]
    have hV : vPath n l f t = [] := by unfold vPath; rw [hE, if_neg he]
    rw [hV, hE]
    have hmd := made_err n l hl A c _ hA0 he
    obtain ⟨E, hE⟩ : ∃ E, E = (chkG n l).1 := ⟨_, rfl⟩
    obtain ⟨ln, hln⟩ : ∃ ln, ln = l.length := ⟨_, rfl⟩
    rw [← hE] at hmd he ⊢
    rw [← hln] at hmd b0 ⊢
    have H := Lib.hid (And.intro b0 hmd)
    have he' : (E != 0) = true := by simpa using he
    clear b0 hmd hA0 hA hE hln hl he hV
    go_enter Try.func15, Try.ntmps15
    go_wp2_with (fail)
    refine H.out.2.mono ?_
    rintro e W1 ⟨rfl, h1⟩
    have D := Lib.hid (gr_call H.out.1 h1)
    clear h1
    go_wp2_with (fail)
    go_ret2
    exact ⟨_, rfl, NatsAt.nil _, D.out⟩
end Go.Proofs.Ytjgkiiohbceocaa
namespace Go.Proofs.Ytjgkiiohbceocaa
set_option linter.unusedVariables false
set_option linter.unusedSimpArgs false

/-- A weight that is not allowed. -/
def badW (x : Int) : Bool := decide (x < 0) || decide (1000 < x)
def intL (l : List Int) : List Value := l.map fun x => .int .i64 x
theorem intL_at {l : List Int} {k : Nat} {x : Int} (h : l[k]? = some x) : (intL l)[k]? = some (.int .i64 x) := by unfold intL; rw [List.getElem?_map, h]; rfl
theorem intL_len (l : List Int) : (intL l).length = l.length := by simp [intL]
def wN (wl : List Int) (k : Nat) : Nat := ((wl[k]?).getD 0).toNat
theorem wN_at {wl : List Int} {k : Nat} (hk : k < wl.length) (hb : wl.any badW = false) : ∃ x : Int, wl[k]? = some x ∧ x = (wN wl k : Int) ∧ wN wl k ≤ 1000 := by
  have he : wl[k]? = some wl[k] := List.getElem?_eq_getElem hk
  have := (List.any_eq_false.1 hb) wl[k] (List.getElem_mem hk)
  unfold badW at this
  rw [Bool.not_eq_true, Bool.or_eq_false_iff, decide_eq_false_iff_not, decide_eq_false_iff_not] at this
  refine ⟨wl[k], he, ?_, ?_⟩ <;> unfold wN <;> rw [he, Option.getD_some] <;> omega
/-- The greatest weight of a component. -/
def oT (wl : List Int) (l : List Nat) : Nat := l.foldl (fun a k => max a (wN wl k)) 0
theorem oT_step {wl : List Int} {l : List Nat} {t x : Nat} (hx : l[t]? = some x) : oT wl (l.take (t + 1)) = max (oT wl (l.take t)) (wN wl x) := by
  unfold oT
  rw [List.take_add_one, hx, List.foldl_append]; rfl
theorem oT_le {wl : List Int} {B : Nat} : ∀ {l : List Nat}, (∀ x ∈ l, wN wl x ≤ B) → ∀ a, a ≤ B → l.foldl (fun a k => max a (wN wl k)) a ≤ B
  | [], _, a, h => h
  | x :: l, h, a, ha => oT_le (fun y hy => h y (by simp [hy])) (max a (wN wl x)) (Nat.max_le.2 ⟨ha, h x (by simp)⟩)
def ownF (wl : List Int) (ls : List (List Nat)) (i : Nat) : Nat := oT wl ((ls[i]?).getD [])
theorem wN_le {wl : List Int} (hb : wl.any badW = false) (k : Nat) : wN wl k ≤ 1000 := by
  by_cases hk : k < wl.length
  · exact (wN_at hk hb).choose_spec.2.2
  · unfold wN
    rw [List.getElem?_eq_none (by omega)]
    decide
theorem ownF_le {wl : List Int} (hb : wl.any badW = false) (ls : List (List Nat)) (i : Nat) : ownF wl ls i ≤ 1000 := oT_le (fun x _ => wN_le hb x) 0 (by decide)
/-- own, as far as it is filled. -/
def ownT (m : Nat) (own : Nat → Nat) (j k : Nat) : Nat := if m - j ≤ k then own k else 0
theorem ownT_low {m : Nat} {own : Nat → Nat} {j k : Nat} (h : k < m - j) : ownT m own j k = 0 := by unfold ownT; rw [if_neg (by omega)]
theorem ownT_next {m : Nat} {own : Nat → Nat} {j : Nat} (hj : j < m) (k : Nat) : ownT m own (j + 1) k = upd (ownT m own j) (m - 1 - j) (own (m - 1 - j)) k := by
  by_cases h : k = m - 1 - j
  · subst h; rw [upd_same]; unfold ownT; rw [if_pos (by omega)]
  · rw [upd_other _ _ h]
    unfold ownT
    by_cases h2 : m - j ≤ k
    · rw [if_pos h2, if_pos (by omega)]
    · rw [if_neg h2, if_neg (by omega)]
theorem hvI_bound {e : Nat → Nat → Bool} {own : Nat → Nat} {i : Nat} {H : Nat → Nat × List Nat} {B L : Nat} (ho : own i ≤ 1000) : ∀ {c : Nat}, (∀ d, d < c → (H (i + 1 + d)).1 ≤ B ∧ (H (i + 1 + d)).2.length ≤ L) →
    (hvI e own i H c).1 ≤ B + 1000 ∧ (hvI e own i H c).2.length ≤ L + 1 ∧ (hvI e own i H c).2 ≠ []
  | 0, _ => ⟨show own i ≤ _ by omega, show 1 ≤ L + 1 by omega, by intro h; cases h⟩
  | c + 1, hh => by
    obtain ⟨h1, h2, h3⟩ := hvI_bound (e := e) ho (c := c) (fun d hd => hh d (by omega))
    obtain ⟨g1, g2⟩ := hh c (by omega)
    unfold hvI
    split
    · exact ⟨show own i + _ ≤ _ by omega, show _ + 1 ≤ _ by omega, by intro h; cases h⟩
    · exact ⟨h1, h2, h3⟩
theorem hvS_bound {m : Nat} {e : Nat → Nat → Bool} {own : Nat → Nat} (ho : ∀ i, own i ≤ 1000) : ∀ j k, (hvS m e own j k).1 ≤ 1000 * j ∧ (hvS m e own j k).2.length ≤ j
  | 0, k => ⟨Nat.zero_le _, Nat.zero_le _⟩
  | j + 1, k => by
    show (upd (hvS m e own j) (m - 1 - j) (hvI e own (m - 1 - j) (hvS m e own j) j) k).1 ≤ _ ∧ (upd (hvS m e own j) (m - 1 - j) (hvI e own (m - 1 - j) (hvS m e own j) j) k).2.length ≤ _
    by_cases h : k = m - 1 - j
    · subst h
      rw [upd_same]
      obtain ⟨h1, h2, _⟩ := hvI_bound (e := e) (c := j) (ho (m - 1 - j)) (fun d _ => hvS_bound (m := m) (e := e) ho j (m - 1 - j + 1 + d))
      exact ⟨by omega, h2⟩
    · rw [upd_other _ _ h]
      obtain ⟨h1, h2⟩ := hvS_bound (m := m) (e := e) ho j k
      exact ⟨by omega, by omega⟩
theorem hvS_ne {m : Nat} {e : Nat → Nat → Bool} {own : Nat → Nat} (ho : ∀ i, own i ≤ 1000) : ∀ j k, j ≤ m → m - j ≤ k → k < m → (hvS m e own j k).2 ≠ []
  | 0, k, hj, h1, h2 => by omega
  | j + 1, k, hj, h1, h2 => by
    show (upd (hvS m e own j) (m - 1 - j) (hvI e own (m - 1 - j) (hvS m e own j) j) k).2 ≠ []
    by_cases h : k = m - 1 - j
    · subst h
      rw [upd_same]
      exact (hvI_bound (e := e) (c := j) (ho (m - 1 - j)) (fun d _ => hvS_bound (m := m) (e := e) ho j (m - 1 - j + 1 + d))).2.2
    · rw [upd_other _ _ h]
      exact hvS_ne ho j k (by omega) (by omega) h2
theorem hvS_zero {m : Nat} {e : Nat → Nat → Bool} {own : Nat → Nat} : ∀ {j k : Nat}, k < m - j → hvS m e own j k = (0, [])
  | 0, _, _ => rfl
  | j + 1, k, h => by
    show upd (hvS m e own j) (m - 1 - j) _ k = _
    rw [upd_other _ _ (by omega)]
    exact hvS_zero (by omega)
def atV (B : Nat → Nat) (i : Nat) : Int := match argM B i with
  | none => -1
  | some a => (a : Int)
theorem atV_first (B : Nat → Nat) : atV B 1 = 0 := rfl
theorem atV_step {B : Nat → Nat} {i a : Nat} (h : argM B i = some a) : atV B (i + 1) = if B a < B i then (i : Int) else (a : Int) := by
  unfold atV argM
  rw [h]
  show (match (if B a < B i then some i else some a) with | none => -1 | some a => (a : Int)) = _
  by_cases hb : B a < B i
  · rw [if_pos hb, if_pos hb]
  · rw [if_neg hb, if_neg hb]
/-- What Heaviest answers. -/
def eHv (n : Int) (l : List Edg) (wl : List Int) : Int := if (chkG n l).1 = 0 then (if (wl.length : Int) = n then (if wl.any badW = true then 2 else 0) else 3) else (chkG n l).1
def hvV (m : Nat) (E : Nat → Nat → Bool) (wl : List Int) (ls : List (List Nat)) : Nat × List Nat := match argM (fun i => (hvF ls.length (edgP E ls) (ownF wl ls) i).1) ls.length with
  | none => (0, [])
  | some a => hvF ls.length (edgP E ls) (ownF wl ls) a
def vHv (n : Int) (l : List Edg) (wl : List Int) : Nat × List Nat := if eHv n l wl = 0 then hvV n.toNat (relE l) wl (pV n l) else (0, [])
end Go.Proofs.Ytjgkiiohbceocaa
