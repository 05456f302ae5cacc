/-
  The reference's code, ends and Check of flags, walked: the same plain functions; no condition.
-/
import Derived.Test.YtlipjagdlpkjpaaDoorFlgC
namespace Go.Proofs.YtlipjagdlpkjpaaDoor
open Go.RowKit Go.Joins
set_option linter.unusedVariables false
set_option linter.unusedSimpArgs false

theorem rcodes (w : World) : Calls Tryd.prog 22 #[] w fun e W' => e = .returned (.slice (some ⟨w.heap.size, 0, none⟩) 5 5) ∧ W' = w.alloc (.cells #[.int .i64 301, .int .i64 302, .int .i64 303, .int .i64 307, .int .i64 308] 3) := by
  go_enter Tryd.func22, Tryd.ntmps22
  go_wp2_with (fail)
  go_ret
  exact ⟨rfl, rfl⟩
def RcRel (n : Int) (w : World) (i : Value) (wr : World) : Prop := Below w.heap.size w wr ∧ ∃ k : Nat, k ≤ 5 ∧ i = .int .i64 (k : Int) ∧ ∀ j, j < k → codeAt j ≠ n
theorem code_cell (w : World) (k : Nat) (hk : k < 5) : (w.alloc (.cells #[.int .i64 301, .int .i64 302, .int .i64 303, .int .i64 307, .int .i64 308] 3)).cell? ⟨w.heap.size, k, none⟩ = some (.int .i64 (codeAt k)) := by
  have h := Blk.new w 3 #[.int .i64 301, .int .i64 302, .int .i64 303, .int .i64 307, .int .i64 308]
  have hh : k = 0 ∨ k = 1 ∨ k = 2 ∨ k = 3 ∨ k = 4 := by omega
  rcases hh with rfl | rfl | rfl | rfl | rfl <;> exact h.cell' rfl

set_option maxRecDepth 100000 in
set_option maxHeartbeats 2000000 in
theorem rcode (n : Int) (w : World) : Calls Tryd.prog 42 #[.int .i64 n] w fun e w' => e = .returned (.bool (codeR n)) ∧ Below w.heap.size w w' := by
  go_enter Tryd.func42, Tryd.ntmps42
  go_wp2_with (fail)
  go_loopw [3] (fun i wr => RcRel n w i wr) (fun i _ => 5 - (intOf i).toNat)
  case atStart => exact ⟨Below.refl _ _, 0, by decide, rfl, fun j hj => absurd hj (by omega)⟩
  case round =>
    obtain ⟨hbel, k, hk, rfl, hne⟩ := hrel
    by_cases hlt : k < 5
    · have hcr := @codeR_at n k hlt
      have HN := Lib.hid (And.intro hne hbel)
      clear hne hbel
      go_wp2_with (fail)
      refine (rcodes _).mono ?_
      rintro e W1 ⟨rfl, hW1⟩
      have hb1 : Below w.heap.size w W1 := by rw [hW1]; exact HN.out.2.alloc HN.out.2.size _
      clear hW1
      go_wp2_with (fail)
      refine (rcodes _).mono ?_
      rintro e W2 ⟨rfl, hW2⟩
      have hb2 : Below w.heap.size w W2 := by rw [hW2]; exact hb1.alloc hb1.size _
      have hc2 : W2.cell? ⟨W1.heap.size, k, none⟩ = some (.int .i64 (codeAt k)) := by rw [hW2]; exact code_cell W1 k hlt
      have HB := Lib.hid hb2
      clear hW2 hb1 hb2
      generalize hc : codeAt k = c at hc2 hcr
      by_cases hcn : c = n
      · have HC := Lib.hid (hcr hcn)
        clear hcr
        go_wp2_with (fail)
        go_ret
        exact ⟨ret_bool (by rw [HC.out]), HB.out⟩
      · clear hcr
        go_wp2_with (fail)
        refine ⟨⟨HB.out, k + 1, by omega, by go_num, fun j hj => ?_⟩, by simp [intOf]; omega⟩
        by_cases hjk : j = k
        · subst hjk; rw [hc]; exact hcn
        · exact HN.out.1 j (by omega)
    · obtain rfl : k = 5 := by omega
      have HC := Lib.hid (And.intro (codeR_no hne) hbel)
      clear hne hbel
      go_wp2_with (fail)
      refine (rcodes _).mono ?_
      rintro e W1 ⟨rfl, hW1⟩
      have hb1 : Below w.heap.size w W1 := by rw [hW1]; exact HC.out.2.alloc HC.out.2.size _
      have HB := Lib.hid hb1
      clear hW1 hb1
      go_wp2_with (fail)
      go_ret
      exact ⟨ret_bool (by rw [HC.out.1]), HB.out⟩

def EndRel (f : Flg) (w : World) (v i : Value) (wr : World) : Prop :=
  ∃ k : Nat, k ≤ 8 ∧ i = .int .i64 (k : Int) ∧ v = .int .i64 (endN f k : Int) ∧ Blk wr (w.heap.size + 1) 4 #[.bool f.last, .bool f.next, .bool f.chain, .bool f.fin, .bool f.forb, .bool f.gone, .bool (!(f.skip == 0)), .bool (!(f.red == 0))] ∧ Below w.heap.size w wr
theorem endN_le (f : Flg) (k : Nat) : endN f k ≤ k := by
  induction k with
  | zero => exact Nat.le_refl _
  | succ k ih =>
    unfold endN
    have : (endB f k).toNat ≤ 1 := by cases endB f k <;> decide
    omega
theorem end_cell {f : Flg} {W : World} {g : Nat} (h : Blk W g 4 #[.bool f.last, .bool f.next, .bool f.chain, .bool f.fin, .bool f.forb, .bool f.gone, .bool (!(f.skip == 0)), .bool (!(f.red == 0))]) (k : Nat) (hk : k < 8) : W.cell? ⟨g, k, none⟩ = some (.bool (endB f k)) := by
  have hh : k = 0 ∨ k = 1 ∨ k = 2 ∨ k = 3 ∨ k = 4 ∨ k = 5 ∨ k = 6 ∨ k = 7 := by omega
  rcases hh with rfl | rfl | rfl | rfl | rfl | rfl | rfl | rfl <;> exact h.cell' rfl

set_option maxRecDepth 100000 in
set_option maxHeartbeats 2000000 in
theorem rends (f : Flg) (w : World) : Calls Tryd.prog 40 #[Value.agg #[Value.bool f.last, .bool f.next, .bool f.chain, .bool f.fin, .bool f.forb, .bool f.gone, .bool f.app, .bool f.disc, .int .i64 f.skip, .int .i64 f.red]] w fun e W' => e = .returned (.int .i64 (endN f 8 : Int)) ∧ Below w.heap.size w W' := by
  have hne : ∀ x : Int, (x != 0) = !(x == 0) := fun x => rfl
  go_enter Tryd.func40, Tryd.ntmps40
  go_wp2_with (fail)
  go_loopw [3, 5] (fun v i wr => EndRel f w v i wr) (fun _ i _ => 8 - (intOf i).toNat)
  case atStart => exact ⟨0, by decide, rfl, rfl, blk_at (by simp), gr_alloc (gr_alloc (Below.refl _ _) _) _⟩
  case round =>
    obtain ⟨k, hk, rfl, rfl, hblk, hbel⟩ := hrel
    have hlen := endN_le f k
    by_cases hlt : k < 8
    · have hc := end_cell hblk k hlt
      have hs : endN f (k + 1) = endN f k + (endB f k).toNat := rfl
      have H := Lib.hid (And.intro hblk (And.intro hbel hs))
      have hsz := hblk.lt
      clear hblk hbel hs
      generalize endN f k = m at *
      generalize hb : endB f k = b at *
      cases b with
      | false =>
        go_wp2_with (fail)
        exact ⟨⟨k + 1, by omega, by go_num, by rw [H.out.2.2]; rfl, H.out.1, H.out.2.1⟩, by simp [intOf]; omega⟩
      | true =>
        go_wp2_with (fail)
        exact ⟨⟨k + 1, by omega, by go_num, by rw [H.out.2.2]; go_num, H.out.1, H.out.2.1⟩, by simp [intOf]; omega⟩
    · obtain rfl : k = 8 := by omega
      have H := Lib.hid hbel
      clear hblk hbel
      go_wp2_with (fail)
      go_ret
      exact ⟨rfl, H.out⟩
end Go.Proofs.YtlipjagdlpkjpaaDoor
