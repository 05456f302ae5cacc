/-
  Two request lines compared; the law's own heavy, parses and awake, walked; condition: a variable of the library is an int.
-/
import Derived.Test.YtllhcfgddcjfkaaDoorRlI
import Derived.Laws.StructEq
import Derived.Laws.Tables
import Derived.Laws.Cover2
namespace Go.Proofs.YtllhcfgddcjfkaaDoor
open Go.RowKit
set_option linter.unusedVariables false
set_option linter.unusedSimpArgs false

set_option maxRecDepth 100000 in
theorem eqLine (a b c d : ByteArray) (w : World) : (Op.equalIn 10000 29 (.agg #[.string a, .string b]) (.agg #[.string c, .string d])).run Tryd.prog w = .ok (decide (a = c) && decide (b = d)) w := by
  have u3 := Tryd.underlying9
  have a3 := Tryd.isAgg9
  have z3 := Tryd.sizeOf9
  rw [← str_beq a c, ← str_beq b d]
  rw [show (10000 : Nat) = 9999 + 1 from rfl, Op.equalIn]
  simp only [Sem.run_bind, run_underlying Tryd.underlying29, Result.andThen_ok]
  go_simp
  cases h1 : (a.toList == c.toList) <;> cases h2 : (b.toList == d.toList) <;> simp_all
theorem parA_full {s : ByteArray} (h : parS (byS s) s.size = 0) : parA s = pA s ∧ parB s = pB s ∧ (pA s).size ≠ 0 := by
  refine ⟨by unfold parA; rw [if_pos h], by unfold parB; rw [if_pos h], ?_⟩
  rcases parS_cases (byS s) s.size with ⟨_, h1, h2, h3⟩ | ⟨h1, _⟩ | ⟨h1, h2⟩
  · exact (wrong_full h2 (by unfold lenC at h3; omega)).2.1
  · rw [h] at h1; cases h1
  · rw [h] at h1; exact absurd h1.symm h2
theorem parA_none {s : ByteArray} (h : parS (byS s) s.size ≠ 0) : parA s = ⟨#[]⟩ ∧ parB s = ⟨#[]⟩ := ⟨by unfold parA; rw [if_neg h], by unfold parB; rw [if_neg h]⟩

set_option maxRecDepth 100000 in
theorem bheavy (s : ByteArray) (hs : s.size ≤ 9223372036854775807) (w : World) : Calls Tryd.prog 10 #[.string s] w fun e W' => e = .returned (.bool (decide (2000 < (s.size : Int)))) ∧ w = W' := by
  go_enter Tryd.func10, Tryd.ntmps10
  go_wp2_with (fail)
  go_ret
  exact ⟨rfl, rfl⟩

set_option maxRecDepth 100000 in
set_option maxHeartbeats 4000000 in
theorem bparses (s : ByteArray) (hs : s.size ≤ 1000000) (st at' : Int) (h1 : parS (byS s) s.size = st) (h2 : (parP (byS s) s.size : Int) = at') (w : World) (hm : MaxOk w) :
    Calls Tryd.prog 18 #[.string s, .int .i64 st, .int .i64 at'] w fun e W' => e = .returned (.bool true) ∧ Below w.heap.size w W' := by
  have heq := eqLine (parA s) (parB s) ⟨#[]⟩ ⟨#[]⟩
  have hd : (decide (parA s = ⟨#[]⟩) && decide (parB s = ⟨#[]⟩)) = (st != 0) := by
    by_cases h0 : st = 0
    · have := parA_full (h1.trans h0)
      rw [decide_eq_false (fun e => this.2.2 (by rw [← this.1, e]; rfl))]
      simp [h0]
    · have := parA_none (s := s) (by rw [h1]; exact h0)
      rw [decide_eq_true this.1, decide_eq_true this.2]
      simp [h0]
  simp only [hd] at heq
  have HV : Hid (parV s = .tuple #[.agg #[.string (parA s), .string (parB s)], .int .i64 st, .int .i64 at']) := Lib.hid (by unfold parV; rw [h1, h2])
  clear hd h1 h2
  go_enter Tryd.func18, Tryd.ntmps18
  go_wp2_with (fail)
  refine (bparse s hs _ hm).mono ?_
  rintro e W1 ⟨rfl, h1⟩
  rw [HV.out]
  have z1 := gr_alloc h1 (.cells #[.string (parA s), .string (parB s)] 29)
  have b1 := Blk.new W1 29 #[.string (parA s), .string (parB s)]
  have x0 := b1.cell' (i := 0) rfl
  have x1 := b1.cell' (i := 1) rfl
  have xl := b1.lt
  have H1 := Lib.hid z1
  clear z1 b1 h1
  go_wp2_with (fail)
  go_ret
  exact ⟨rfl, H1.out⟩
end Go.Proofs.YtllhcfgddcjfkaaDoor
