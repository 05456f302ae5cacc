/-
  waypostkit's SameInts and SameBools at what the answers are, walked; conditions: lists of at most 1000000 entries.
-/
import Derived.Test.YtjgkiiohbceocaaSdG
import Derived.Test.YtjgkiiohbceocaaSmI
import Derived.BigQuiet
import Derived.Deep.QuietTactic
namespace Go.Proofs.Ytjgkiiohbceocaa
open Go.RowKit
set_option linter.unusedVariables false
set_option linter.unusedSimpArgs false

def boolsAt (L : List Bool) : Nat → Nat → Value := fun i _ => .bool (L.getD i false)
/-- Two lists agreeB on their first k. -/
def agreeB (L M : List Bool) (k : Nat) : Prop := ∀ i, i < k → L.getD i false = M.getD i false
theorem agreeB_eq {L M : List Bool} (hl : L.length = M.length) (h : agreeB L M L.length) : L = M := by
  apply List.ext_getElem hl
  intro i h1 h2
  have := h i h1
  simpa [List.getD, h1, h2] using this

set_option maxRecDepth 100000 in
set_option maxHeartbeats 2000000 in
theorem sameBools (L M : List Bool) (A B : Option Addr) (c d : Nat) (hL : L.length ≤ 1000000) (hM : M.length ≤ 1000000) (w : World) (hA : Cells w A 1 L.length (boolsAt L)) (hB : Cells w B 1 M.length (boolsAt M)) :
    Calls Try.prog 28 #[.slice A L.length c, .slice B M.length d] w fun e W' => e = .returned (.bool (decide (L = M))) ∧ Below w.heap.size w W' := by
  have H := Lib.hid (And.intro hA hB)
  clear hA hB
  by_cases hl : L.length = M.length
  · have HL := Lib.hid hl
    rw [← hl]
    obtain ⟨n, hn⟩ : ∃ n, n = L.length := ⟨_, rfl⟩
    rw [← hn]
    rw [← hn] at hL
    have HN := Lib.hid hn
    clear hl hM hn
    go_enter Try.func28, Try.ntmps28
    go_wp2_with (fail)
    go_loopw [5] (fun i wr => Below w.heap.size w wr ∧ ∃ k : Nat, k ≤ n ∧ i = .int .i64 (k : Int) ∧ agreeB L M k) (fun i _ => n - (intOf i).toNat)
    case atStart => exact ⟨Below.refl _ _, 0, Nat.zero_le _, rfl, fun i hi => absurd hi (by omega)⟩
    case round =>
      obtain ⟨hbel, k, hk, rfl, hag⟩ := hrel
      have HG := Lib.hid hag
      have HB := Lib.hid hbel
      clear hag hbel
      by_cases hlt : k < n
      · obtain ⟨ab, ao, rfl, had, hcl⟩ := (H.out.1.below HB.out) (by rw [← HN.out]; omega)
        obtain ⟨bb, bo, rfl, hbd, hdl⟩ := (H.out.2.below HB.out) (by rw [← HL.out, ← HN.out]; omega)
        have c0 : wr.cell? ⟨ab, ao + k, none⟩ = some (.bool (L.getD k false)) := by have h1 := hcl k 0 (by rw [← HN.out]; exact hlt) (by decide); rw [Nat.mul_one, Nat.add_zero] at h1; exact h1
        have d0 : wr.cell? ⟨bb, bo + k, none⟩ = some (.bool (M.getD k false)) := by have h1 := hdl k 0 (by rw [← HL.out, ← HN.out]; exact hlt) (by decide); rw [Nat.mul_one, Nat.add_zero] at h1; exact h1
        clear hcl hdl
        generalize hx : L.getD k false = x at c0
        generalize hy : M.getD k false = y at d0
        have HXY := Lib.hid (And.intro hx hy)
        clear hx hy
        cases x <;> cases y
        case false.false =>
          go_wp2_with (fail)
          go_quiet (fail)
          go_wp2_with (fail)
          refine ⟨⟨below_drewN HB.out _, k + 1, by omega, by go_num, fun i hi => ?_⟩, by simp [intOf]; omega⟩
          by_cases e : i = k
          · subst e; rw [HXY.out.1, HXY.out.2]
          · exact HG.out i (by omega)
        case false.true =>
          go_wp2_with (fail)
          go_quiet (fail)
          go_wp2_with (fail)
          go_ret
          refine ⟨ret_bool ?_, below_drewN HB.out _⟩
          refine (decide_eq_false fun e => ?_).symm
          have h1 := HXY.out.1
          rw [e, HXY.out.2] at h1
          cases h1
        case true.false =>
          go_wp2_with (fail)
          go_quiet (fail)
          go_wp2_with (fail)
          go_ret
          refine ⟨ret_bool ?_, below_drewN HB.out _⟩
          refine (decide_eq_false fun e => ?_).symm
          have h1 := HXY.out.1
          rw [e, HXY.out.2] at h1
          cases h1
        case true.true =>
          go_wp2_with (fail)
          go_quiet (fail)
          go_wp2_with (fail)
          refine ⟨⟨below_drewN HB.out _, k + 1, by omega, by go_num, fun i hi => ?_⟩, by simp [intOf]; omega⟩
          by_cases e : i = k
          · subst e; rw [HXY.out.1, HXY.out.2]
          · exact HG.out i (by omega)
      · obtain rfl : k = n := by omega
        go_wp2_with (fail)
        go_ret
        refine ⟨ret_bool ?_, HB.out⟩
        exact (decide_eq_true (agreeB_eq HL.out (by rw [← HN.out]; exact HG.out))).symm
  · have hne : ((L.length : Int) != (M.length : Int)) = true := by
      rw [bne_iff_ne]
      omega
    have HQ := Lib.hid (fun e : L = M => hl (by rw [e]))
    clear hl
    go_enter Try.func28, Try.ntmps28
    go_wp2_with (fail)
    go_ret
    exact ⟨ret_bool (decide_eq_false HQ.out).symm, Below.refl _ _⟩


def toI (l : List Nat) : List Int := l.map fun (x : Nat) => (x : Int)
theorem toI_len (l : List Nat) : (toI l).length = l.length := by simp [toI]
theorem toI_inj {a b : List Nat} (h : toI a = toI b) : a = b := by
  unfold toI at h
  exact (List.map_inj_right (fun x y h => by have h : (x : Int) = (y : Int) := h; omega)).1 h
theorem nats_cells {W : World} {v : Value} {l : List Nat} (h : NatsAt W v l) : ∃ A c, v = .slice A (toI l).length c ∧ Cells W A 1 (toI l).length (intsAt (toI l)) := by
  obtain ⟨A, c, h1, h2⟩ := h.ex
  refine ⟨A, c, by rw [toI_len]; exact h1, fun hn => ?_⟩
  rw [toI_len] at hn
  obtain ⟨g, o, h3, h4, h5⟩ := h2 (fun e => by rw [e] at hn; simp at hn)
  refine ⟨g, o, h3, h4, fun i j hi hj => ?_⟩
  rw [toI_len] at hi
  obtain rfl : j = 0 := by omega
  rw [Nat.mul_one, Nat.add_zero, h5 i l[i] (List.getElem?_eq_getElem hi)]
  unfold intsAt toI
  rw [List.getD_eq_getElem?_getD, List.getElem?_map, List.getElem?_eq_getElem hi]
  rfl
theorem same_nats (a b : List Nat) (va vb : Value) (w : World) (ha : NatsAt w va a) (hb : NatsAt w vb b) (la : a.length ≤ 1000000) (lb : b.length ≤ 1000000) :
    Calls Try.prog 17 #[va, vb] w fun e W' => e = .returned (.bool (decide (a = b))) ∧ Below w.heap.size w W' := by
  obtain ⟨A, c, rfl, h1⟩ := nats_cells ha
  obtain ⟨B, d, rfl, h2⟩ := nats_cells hb
  refine (sameInts (toI a) (toI b) A B c d (by rw [toI_len]; exact la) (by rw [toI_len]; exact lb) w h1 h2).mono ?_
  rintro e W' ⟨h3, h4⟩
  refine ⟨?_, h4⟩
  rw [h3, show decide (toI a = toI b) = decide (a = b) from by
    rw [Bool.eq_iff_iff, decide_eq_true_eq, decide_eq_true_eq]
    exact ⟨toI_inj, fun h => by rw [h]⟩]
theorem bools_cells {W : World} {v : Value} {l : List Bool} (h : CellsAt W v (boolL l)) : ∃ A c, v = .slice A l.length c ∧ Cells W A 1 l.length (boolsAt l) := by
  obtain ⟨A, c, h1, h2⟩ := h.ex
  have hl : (boolL l).length = l.length := by simp [boolL]
  refine ⟨A, c, by rw [← hl]; exact h1, fun hn => ?_⟩
  obtain ⟨g, o, h3, h4, h5⟩ := h2 (fun e => by rw [← hl, e] at hn; simp at hn)
  refine ⟨g, o, h3, h4, fun i j hi hj => ?_⟩
  obtain rfl : j = 0 := by omega
  rw [Nat.mul_one, Nat.add_zero, h5 i (.bool l[i]) (by unfold boolL; rw [List.getElem?_map, List.getElem?_eq_getElem hi]; rfl)]
  unfold boolsAt
  rw [List.getD_eq_getElem?_getD, List.getElem?_eq_getElem hi]
  rfl
theorem same_bools (a b : List Bool) (va vb : Value) (w : World) (ha : CellsAt w va (boolL a)) (hb : CellsAt w vb (boolL b)) (la : a.length ≤ 1000000) (lb : b.length ≤ 1000000) :
    Calls Try.prog 28 #[va, vb] w fun e W' => e = .returned (.bool (decide (a = b))) ∧ Below w.heap.size w W' := by
  obtain ⟨A, c, rfl, h1⟩ := bools_cells ha
  obtain ⟨B, d, rfl, h2⟩ := bools_cells hb
  exact sameBools a b A B c d la lb w h1 h2
end Go.Proofs.Ytjgkiiohbceocaa
