/-
  scc's Check, walked; conditions: at most 1000000 edges.
-/
import Derived.Test.YtjgkiiohbceocaaScI
import Derived.Test.YtjgkiiohbceocaaRow
import Derived.Test.YtjgkiiohbceocaaProg
namespace Go.Proofs.Ytjgkiiohbceocaa
open Go.RowKit
set_option linter.unusedVariables false
set_option linter.unusedSimpArgs false

/-! Edges, and the first error of a graph. -/
structure Edg where
  f : Int
  t : Int
  deriving Inhabited
def edgV (e : Edg) : List Value := [.int .i64 e.f, .int .i64 e.t]
def edAt (l : List Edg) : Nat → Nat → Value := fun i j => match l[i]? with
  | some p => ((edgV p)[j]?).getD (.bool false)
  | none => .bool false
theorem edAt_of {l : List Edg} {k : Nat} {p : Edg} (hp : l[k]? = some p) : edAt l k 0 = .int .i64 p.f ∧ edAt l k 1 = .int .i64 p.t := by
  unfold edAt
  rw [hp]
  exact ⟨rfl, rfl⟩
theorem cells_edg {w : World} {A : Option Addr} {l : List Edg} (h : Cells w A 2 l.length (edAt l)) {k : Nat} {p : Edg} (hp : l[k]? = some p) :
    ∃ ab ao, A = some ⟨ab, ao, none⟩ ∧ ab < w.heap.size ∧ w.cell? ⟨ab, ao + k * 2, none⟩ = some (.int .i64 p.f) ∧ w.cell? ⟨ab, ao + k * 2 + 1, none⟩ = some (.int .i64 p.t) := by
  have hk := (List.getElem?_eq_some_iff.1 hp).1
  obtain ⟨ab, ao, rfl, hlt, hc⟩ := h (by omega)
  obtain ⟨e0, e1⟩ := edAt_of hp
  have c0 := hc k 0 hk (by decide)
  have c1 := hc k 1 hk (by decide)
  rw [e0] at c0
  rw [e1] at c1
  exact ⟨ab, ao, rfl, hlt, c0, c1⟩
def nodE (n x : Int) : Bool := decide (0 ≤ x) && decide (x < n)
/-- Whether an edge does not come behind another one. -/
def badE (b : Option Edg) (e : Edg) : Bool := match b with
  | none => false
  | some b => decide (e.f < b.f) || (decide (e.f = b.f) && decide (e.t ≤ b.t))
def chkE (n : Int) : Option Edg → Nat → List Edg → Int × Nat
  | _, _, [] => (0, 0)
  | b, i, e :: l => if (nodE n e.f && nodE n e.t) = true then (if badE b e = true then (8, i) else chkE n (some e) (i + 1) l) else (2, i)
def outN (n : Int) : Bool := decide (n < 0) || decide (64 < n)
def chkG (n : Int) (l : List Edg) : Int × Nat := if outN n = true then (2, 0) else chkE n none 0 l
/-- The edge ahead of the k-th one. -/
def prevE (l : List Edg) : Nat → Option Edg
  | 0 => none
  | k + 1 => l[k]?
theorem chkE_step {n : Int} {l : List Edg} {k : Nat} {e : Edg} (hp : l[k]? = some e) :
    chkE n (prevE l k) k (l.drop k) = if (nodE n e.f && nodE n e.t) = true then (if badE (prevE l k) e = true then (8, k) else chkE n (prevE l (k + 1)) (k + 1) (l.drop (k + 1))) else (2, k) := by
  have hk := (List.getElem?_eq_some_iff.1 hp).1
  rw [List.drop_eq_getElem_cons hk, (List.getElem?_eq_some_iff.1 hp).2]
  show (if (nodE n e.f && nodE n e.t) = true then (if badE (prevE l k) e = true then (8, k) else chkE n (some e) (k + 1) (l.drop (k + 1))) else (2, k)) = _
  rw [show prevE l (k + 1) = some e from hp]

/-! The code. -/
set_option maxRecDepth 100000 in
set_option maxHeartbeats 1000000 in
theorem node_code (n x : Int) (sv : Value) (bn : Nat) (T : TypeId) (w : World) (hb : Blk w bn T #[.int .i64 n, sv]) :
    Calls Try.prog 53 #[.int .i64 x, .pointer (some ⟨bn, 0, none⟩)] w fun e w' => e = .returned (.bool (nodE n x)) ∧ Below w.heap.size w w' := by
  have c0 := hb.cell' (i := 0) rfl
  have K := Lib.hid (And.intro c0 (Below.refl w.heap.size w))
  clear hb
  unfold nodE
  by_cases h0 : 0 ≤ x
  · rw [decide_eq_true h0]
    go_enter Try.func53, Try.ntmps53
    go_wp2_with (fail)
    go_ret
    exact ⟨by first | rfl | simp, K.out.2⟩
  · rw [decide_eq_false h0]
    go_enter Try.func53, Try.ntmps53
    go_wp2_with (fail)
    go_ret
    exact ⟨by first | rfl | simp, K.out.2⟩

set_option maxRecDepth 100000 in
set_option maxHeartbeats 2000000 in
theorem check_out (n : Int) (sv : Value) (w : World) (h : outN n = true) :
    Calls Try.prog 21 #[.agg #[.int .i64 n, sv]] w fun e w' => e = .returned (.tuple #[.int .i64 2, .int .i64 0]) ∧ Below w.heap.size w w' := by
  have b0 := gr_alloc (Below.refl w.heap.size w) (.cells #[.int .i64 n, sv] 24)
  have K := Lib.hid (And.intro b0 h)
  clear b0
  unfold outN at h
  by_cases h0 : n < 0
  · clear h
    go_enter Try.func21, Try.ntmps21
    go_wp2_with (fail)
    go_ret2
    exact ⟨rfl, K.out.1⟩
  · have h1 : 64 < n := by
      rw [decide_eq_false h0, Bool.false_or, decide_eq_true_eq] at h
      exact h
    clear h
    go_enter Try.func21, Try.ntmps21
    go_wp2_with (fail)
    go_ret2
    exact ⟨rfl, K.out.1⟩

set_option maxRecDepth 100000 in
set_option maxHeartbeats 4000000 in
theorem check_in (n : Int) (l : List Edg) (hl : l.length ≤ 1000000) (A : Option Addr) (c : Nat) (w : World) (h : outN n = false) (hA : Cells w A 2 l.length (edAt l)) :
    Calls Try.prog 21 #[.agg #[.int .i64 n, .slice A l.length c]] w fun e w' => e = .returned (.tuple #[.int .i64 (chkE n none 0 l).1, .int .i64 ((chkE n none 0 l).2 : Int)]) ∧ Below w.heap.size w w' := by
  have hmf : ∀ (fn : Fn) (first cap : Array Value) (w : World), (Instr.makeFunc fn first cap).run Try.prog w = .ok (.func fn first cap) w := fun _ _ _ _ => rfl
  have b0 := gr_alloc (Below.refl w.heap.size w) (.cells #[.int .i64 n, .slice A l.length c] 24)
  have k0 := Blk.new w 24 #[.int .i64 n, .slice A l.length c]
  have hA0 := hA.below b0
  have h0 : ¬ n < 0 ∧ ¬ 64 < n := by
    unfold outN at h
    rw [Bool.or_eq_false_iff, decide_eq_false_iff_not, decide_eq_false_iff_not] at h
    exact h
  obtain ⟨h0, h1⟩ := h0
  have k0' := k0.cell' (i := 0) rfl
  have k1' := k0.cell' (i := 1) rfl
  obtain ⟨ln, hn⟩ : ∃ ln, ln = l.length := ⟨_, rfl⟩
  have K := Lib.hid (And.intro b0 (And.intro k0 hA0))
  clear b0 k0 hA0 hA h
  rw [← hn] at hl K k1' ⊢
  have HN := Lib.hid hn
  clear hn
  go_enter Try.func21, Try.ntmps21
  go_wp2_with (fail)
  go_loopw [20] (fun iv wr => ∃ k : Nat, k ≤ ln ∧ iv = .int .i64 (k : Int) ∧ chkE n none 0 l = chkE n (prevE l k) k (l.drop k) ∧ Below (w.heap.size + 1) (w.alloc (.cells #[.int .i64 n, .slice A ln c] 24)) wr) (fun iv _ => ln - (intOf iv).toNat)
  case atStart => exact ⟨0, Nat.zero_le _, rfl, rfl, (by simpa using Below.refl _ _)⟩
  case round =>
    obtain ⟨k, hk, rfl, hf, hbel⟩ := hrel
    by_cases hlt : k < ln
    · obtain ⟨e, hp⟩ : ∃ e, l[k]? = some e := ⟨_, List.getElem?_eq_getElem (by rw [← HN.out]; exact hlt)⟩
      have hA1 : Cells wr A 2 ln (edAt l) := K.out.2.2.below (by simpa using hbel)
      have hb1 := K.out.2.1.below hbel (by omega)
      have hg1 := gr_call K.out.1 (by simpa using hbel : Below (w.alloc (.cells #[.int .i64 n, .slice A ln c] 24)).heap.size _ wr)
      rw [HN.out] at hA1
      obtain ⟨ab, ao, rfl, hab, c0, c1⟩ := cells_edg hA1 hp
      have hst := chkE_step (n := n) hp
      have bz := hbel.size
      have r0 := hb1.cell' (i := 0) rfl
      have r1 := hb1.cell' (i := 1) rfl
      have e0 := Blk.new wr 57 #[.int .i64 e.f, .int .i64 e.t]
      have B := Lib.hid (And.intro hf (And.intro hbel (And.intro hp (And.intro hst (And.intro hA1 (And.intro hb1 (And.intro hg1 e0)))))))
      clear hf hbel hp hst hA1 hb1 hg1 e0
      go_wp2_with (fail)
      refine (node_code n e.f (.slice (some ⟨ab, ao, none⟩) ln c) w.heap.size 24 _ (B.out.2.2.2.2.2.1.alloc _)).mono ?_
      rintro E1 W1 ⟨rfl, g1⟩
      have d1 := B.out.2.2.2.2.2.2.2.call g1
      have dc0 := d1.cell' (i := 0) rfl
      have dc1 := d1.cell' (i := 1) rfl
      have bb1 := (B.out.2.2.2.2.2.1.alloc (.cells #[.int .i64 e.f, .int .i64 e.t] 57)).call g1
      have gr1 := gr_call (gr_alloc B.out.2.2.2.2.2.2.1 (.cells #[.int .i64 e.f, .int .i64 e.t] 57)) g1
      have bs1 := g1.size
      by_cases hn1 : nodE n e.f = true
      · rw [hn1]
        have N1 := Lib.hid hn1
        have D1 := Lib.hid (And.intro d1 (And.intro bb1 (And.intro gr1 g1)))
        clear hn1 d1 bb1 gr1 g1
        go_wp2_with (fail)
        refine (node_code n e.t (.slice (some ⟨ab, ao, none⟩) ln c) w.heap.size 24 _ D1.out.2.1).mono ?_
        rintro E2 W2 ⟨rfl, g2⟩
        have d2 := D1.out.1.call g2
        have dlt := d2.lt
        have ec0 := d2.cell' (i := 0) rfl
        have ec1 := d2.cell' (i := 1) rfl
        have bb2 := D1.out.2.1.call g2
        have gr2 := gr_call D1.out.2.2.1 g2
        have bs2 := g2.size
        have cg0 := bb2.cell' (i := 1) rfl
        by_cases hn2 : nodE n e.t = true
        · rw [hn2]
          have hst : chkE n none 0 l = if badE (prevE l k) e = true then (8, k) else chkE n (prevE l (k + 1)) (k + 1) (l.drop (k + 1)) := by
            rw [B.out.1, B.out.2.2.2.1, N1.out, hn2]; rfl
          have lw : Below (w.heap.size + 1) (w.alloc (.cells #[.int .i64 n, .slice (some ⟨ab, ao, none⟩) ln c] 24)) W2 :=
            ((B.out.2.1.alloc (by simpa using B.out.2.1.size) (.cells #[.int .i64 e.f, .int .i64 e.t] 57)).trans (D1.out.2.2.2.mono (by simp at bz ⊢; omega))).trans (g2.mono (by simp at bz bs1 ⊢; omega))
          have hA2 : Cells W2 (some ⟨ab, ao, none⟩) 2 l.length (edAt l) := ((B.out.2.2.2.2.1.below (gr_alloc (Below.refl _ _) (.cells #[.int .i64 e.f, .int .i64 e.t] 57))).below D1.out.2.2.2).below g2
          have D2 := Lib.hid (And.intro d2 (And.intro bb2 (And.intro gr2 (And.intro g2 (And.intro hst (And.intro lw hA2))))))
          clear hn2 d2 bb2 gr2 g2 hst lw hA2
          by_cases hk0 : k = 0
          · subst hk0
            go_wp2_with (fail)
            go_roundw
            case rel => exact ⟨1, hlt, rfl, by rw [D2.out.2.2.2.2.1]; rfl, D2.out.2.2.2.2.2.1⟩
            case measure => simp [intOf]; omega
          · obtain ⟨m, hm⟩ : ∃ m, k = m + 1 := ⟨k - 1, by omega⟩
            have w1 : IntKind.i64.wrap ((k : Int) - 1) = (m : Int) := by rw [IntWalk.i64_in _ (by omega)]; omega
            have hml : m < ln := by omega
            obtain ⟨b, hb⟩ : ∃ b, l[m]? = some b := ⟨_, List.getElem?_eq_getElem (by rw [← HN.out]; exact hml)⟩
            obtain ⟨_, _, hab2, _, q0, q1⟩ := cells_edg D2.out.2.2.2.2.2.2 hb
            cases hab2
            have hpr : prevE l k = some b := by rw [hm]; exact hb
            have D3 := Lib.hid (And.intro hm (And.intro hb hpr))
            clear hm hb hpr
            have hbad : badE (prevE l k) e = (decide (e.f < b.f) || (decide (e.f = b.f) && decide (e.t ≤ b.t))) := by rw [D3.out.2.2]; rfl
            by_cases hc1 : e.f < b.f
            · have hst : chkE n none 0 l = (8, k) := by
                rw [D2.out.2.2.2.2.1, if_pos (by rw [hbad, decide_eq_true hc1]; rfl)]
              have D4 := Lib.hid hst
              clear hst hbad
              go_wp2_with (fail)
              go_ret2
              exact ⟨by rw [D4.out]; rfl, gr_alloc D2.out.2.2.1 _⟩
            · by_cases hc2 : e.f = b.f
              · by_cases hc3 : e.t ≤ b.t
                · have hst : chkE n none 0 l = (8, k) := by
                    rw [D2.out.2.2.2.2.1, if_pos (by rw [hbad, decide_eq_false hc1, decide_eq_true hc2, decide_eq_true hc3]; rfl)]
                  have D4 := Lib.hid hst
                  clear hst hbad
                  go_wp2_with (fail)
                  go_ret2
                  exact ⟨by rw [D4.out]; rfl, gr_alloc D2.out.2.2.1 _⟩
                · have hst : chkE n none 0 l = chkE n (prevE l (k + 1)) (k + 1) (l.drop (k + 1)) := by
                    rw [D2.out.2.2.2.2.1, if_neg (by rw [hbad, decide_eq_false hc1, decide_eq_true hc2, decide_eq_false hc3]; decide)]
                  have D4 := Lib.hid hst
                  clear hst hbad
                  go_wp2_with (fail)
                  go_roundw
                  case rel => exact ⟨k + 1, hlt, rfl, D4.out, D2.out.2.2.2.2.2.1.alloc (by simpa using D2.out.2.2.2.2.2.1.size) _⟩
                  case measure => simp [intOf]; omega
              · have hst : chkE n none 0 l = chkE n (prevE l (k + 1)) (k + 1) (l.drop (k + 1)) := by
                  rw [D2.out.2.2.2.2.1, if_neg (by rw [hbad, decide_eq_false hc1, decide_eq_false hc2]; simp)]
                have D4 := Lib.hid hst
                clear hst hbad
                go_wp2_with (fail)
                go_roundw
                case rel => exact ⟨k + 1, hlt, rfl, D4.out, D2.out.2.2.2.2.2.1.alloc (by simpa using D2.out.2.2.2.2.2.1.size) _⟩
                case measure => simp [intOf]; omega
        · rw [Bool.not_eq_true] at hn2
          rw [hn2]
          have hst : chkE n none 0 l = (2, k) := by rw [B.out.1, B.out.2.2.2.1, N1.out, hn2]; rfl
          have D2 := Lib.hid (And.intro gr2 hst)
          clear hn2 d2 bb2 gr2 g2 hst
          go_wp2_with (fail)
          go_ret2
          exact ⟨by rw [D2.out.2]; rfl, D2.out.1⟩
      · rw [Bool.not_eq_true] at hn1
        rw [hn1]
        have hst : chkE n none 0 l = (2, k) := by rw [B.out.1, B.out.2.2.2.1, hn1]; rfl
        have D2 := Lib.hid (And.intro gr1 hst)
        clear hn1 d1 bb1 gr1 g1 hst
        go_wp2_with (fail)
        go_ret2
        exact ⟨by rw [D2.out.2]; rfl, D2.out.1⟩
    · have B := Lib.hid (And.intro hf hbel)
      clear hf hbel
      go_wp2_with (fail)
      go_ret2
      refine ⟨?_, gr_call K.out.1 (by simpa using B.out.2)⟩
      rw [B.out.1, List.drop_of_length_le (by rw [← HN.out]; omega)]
      rfl

theorem check_code (n : Int) (l : List Edg) (hl : l.length ≤ 1000000) (A : Option Addr) (c : Nat) (w : World) (hA : Cells w A 2 l.length (edAt l)) :
    Calls Try.prog 21 #[.agg #[.int .i64 n, .slice A l.length c]] w fun e w' => e = .returned (.tuple #[.int .i64 (chkG n l).1, .int .i64 ((chkG n l).2 : Int)]) ∧ Below w.heap.size w w' := by
  by_cases h : outN n = true
  · unfold chkG; rw [if_pos h]; exact check_out n _ w h
  · unfold chkG; rw [if_neg h]; exact check_in n l hl A c w (by rwa [Bool.not_eq_true] at h) hA
end Go.Proofs.Ytjgkiiohbceocaa
