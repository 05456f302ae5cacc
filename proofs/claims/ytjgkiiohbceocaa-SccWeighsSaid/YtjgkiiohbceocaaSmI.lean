/-
  waypostkit.SameInts, walked; no condition.
-/
import Derived.Test.YtjgkiiohbceocaaRow
import Derived.Test.YtjgkiiohbceocaaProg
import Derived.WalkKit
import Derived.BigQuiet
import Derived.Deep.QuietTactic
namespace Go.Proofs.Ytjgkiiohbceocaa
open Go.RowKit
set_option linter.unusedVariables false
set_option linter.unusedSimpArgs false

def intsAt (L : List Int) : Nat → Nat → Value := fun i _ => .int .i64 (L.getD i 0)
/-- Two lists agree on their first k. -/
def agree (L M : List Int) (k : Nat) : Prop := ∀ i, i < k → L.getD i 0 = M.getD i 0
theorem agree_eq {L M : List Int} (hl : L.length = M.length) (h : agree L M L.length) : L = M := by
  apply List.ext_getElem hl
  intro i h1 h2
  have := h i h1
  simpa [List.getD, h1, h2] using this

set_option maxRecDepth 100000 in
set_option maxHeartbeats 2000000 in
theorem sameInts (L M : List Int) (A B : Option Addr) (c d : Nat) (hL : L.length ≤ 1000000) (hM : M.length ≤ 1000000) (w : World) (hA : Cells w A 1 L.length (intsAt L)) (hB : Cells w B 1 M.length (intsAt M)) :
    Calls Try.prog 17 #[.slice A L.length c, .slice B M.length d] w fun e W' => e = .returned (.bool (decide (L = M))) ∧ Below w.heap.size w W' := by
  have H := Lib.hid (And.intro hA hB)
  clear hA hB
  by_cases hl : L.length = M.length
  · have HL := Lib.hid hl
    rw [← hl]
    obtain ⟨n, hn⟩ : ∃ n, n = L.length := ⟨_, rfl⟩
    rw [← hn]
    rw [← hn] at hL
    have HN := Lib.hid hn
    clear hl hM hn
    go_enter Try.func17, Try.ntmps17
    go_wp2_with (fail)
    go_loopw [5] (fun i wr => Below w.heap.size w wr ∧ ∃ k : Nat, k ≤ n ∧ i = .int .i64 (k : Int) ∧ agree L M k) (fun i _ => n - (intOf i).toNat)
    case atStart => exact ⟨Below.refl _ _, 0, Nat.zero_le _, rfl, fun i hi => absurd hi (by omega)⟩
    case round =>
      obtain ⟨hbel, k, hk, rfl, hag⟩ := hrel
      have HG := Lib.hid hag
      have HB := Lib.hid hbel
      clear hag hbel
      by_cases hlt : k < n
      · obtain ⟨ab, ao, rfl, had, hcl⟩ := (H.out.1.below HB.out) (by rw [← HN.out]; omega)
        obtain ⟨bb, bo, rfl, hbd, hdl⟩ := (H.out.2.below HB.out) (by rw [← HL.out, ← HN.out]; omega)
        have c0 : wr.cell? ⟨ab, ao + k, none⟩ = some (.int .i64 (L.getD k 0)) := by have h1 := hcl k 0 (by rw [← HN.out]; exact hlt) (by decide); rw [Nat.mul_one, Nat.add_zero] at h1; exact h1
        have d0 : wr.cell? ⟨bb, bo + k, none⟩ = some (.int .i64 (M.getD k 0)) := by have h1 := hdl k 0 (by rw [← HL.out, ← HN.out]; exact hlt) (by decide); rw [Nat.mul_one, Nat.add_zero] at h1; exact h1
        clear hcl hdl
        generalize hx : L.getD k 0 = x at c0
        generalize hy : M.getD k 0 = y at d0
        have HXY := Lib.hid (And.intro hx hy)
        clear hx hy
        by_cases hxy : x = y
        · have hb : (x != y) = false := by rw [hxy]; simp
          have HQ := Lib.hid hxy
          clear hxy
          go_wp2_with (fail)
          go_quiet (fail)
          go_wp2_with (fail)
          refine ⟨⟨below_drewN HB.out _, k + 1, by omega, by go_num, fun i hi => ?_⟩, by simp [intOf]; omega⟩
          by_cases e : i = k
          · subst e; rw [HXY.out.1, HXY.out.2]; exact HQ.out
          · exact HG.out i (by omega)
        · have hb : (x != y) = true := by simpa using hxy
          have HQ := Lib.hid hxy
          clear hxy
          go_wp2_with (fail)
          go_quiet (fail)
          go_wp2_with (fail)
          go_ret
          refine ⟨ret_bool ?_, below_drewN HB.out _⟩
          refine (decide_eq_false fun e => HQ.out ?_).symm
          rw [← HXY.out.1, ← HXY.out.2, e]
      · obtain rfl : k = n := by omega
        go_wp2_with (fail)
        go_ret
        refine ⟨ret_bool ?_, HB.out⟩
        exact (decide_eq_true (agree_eq HL.out (by rw [← HN.out]; exact HG.out))).symm
  · have hne : ((L.length : Int) != (M.length : Int)) = true := by
      rw [bne_iff_ne]
      omega
    have HQ := Lib.hid (fun e : L = M => hl (by rw [e]))
    clear hl
    go_enter Try.func17, Try.ntmps17
    go_wp2_with (fail)
    go_ret
    exact ⟨ret_bool (decide_eq_false HQ.out).symm, Below.refl _ _⟩

end Go.Proofs.Ytjgkiiohbceocaa
