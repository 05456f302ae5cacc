/-
  The code's Long, walked; condition: a variable of the library is an int.
-/
import Derived.Test.YtllhcfgddcjfkaaDoorRlA
namespace Go.Proofs.YtllhcfgddcjfkaaDoor
open Go.RowKit
set_option linter.unusedVariables false
set_option linter.unusedSimpArgs false

def LongRel (a b c : ByteArray) (N : Int) (w : World) (X : Nat) (k : Value) (wr : World) : Prop :=
  ∃ j : Nat, j ≤ 3 ∧ k = .int .i64 (j : Int) ∧ (0 < j → a.size ≤ 16) ∧ (1 < j → b.size ≤ 1024) ∧ (2 < j → c.size ≤ 512) ∧ Blk wr X 49 #[.string a, .string b, .string c, .int .i64 N] ∧ Below w.heap.size w wr

set_option maxRecDepth 100000 in
set_option maxHeartbeats 4000000 in
theorem blong (s : ByteArray) (hs : s.size ≤ 1000000) (w : World) (hm : MaxOk w) :
    Calls Tryd.prog 14 #[.string s] w fun e W' => e = .returned (.tuple #[.int .i64 (longS (byS s) s.size), .int .i64 (longP (byS s) s.size : Int)]) ∧ Below w.heap.size w W' := by
  have HM := Lib.hid hm
  have i0 : ∀ W, (Instr.index 51 (.agg #[.int .i64 16, .int .i64 1024, .int .i64 512]) (.int .i64 0)).run Tryd.prog W = .ok (.int .i64 16) W := fun _ => by kernel_rfl
  have i1 : ∀ W, (Instr.index 51 (.agg #[.int .i64 16, .int .i64 1024, .int .i64 512]) (.int .i64 1)).run Tryd.prog W = .ok (.int .i64 1024) W := fun _ => by kernel_rfl
  have i2 : ∀ W, (Instr.index 51 (.agg #[.int .i64 16, .int .i64 1024, .int .i64 512]) (.int .i64 2)).run Tryd.prog W = .ok (.int .i64 512) W := fun _ => by kernel_rfl
  clear hm
  go_enter Tryd.func14, Tryd.ntmps14
  go_wp2_with (fail)
  refine (bread s hs _ HM.out).mono ?_
  rintro e W1 ⟨rfl, h1⟩
  have ea := pA_size s
  have eb := pB_size s
  have ec := pC_size s
  have hla := spA_le (byS s) s.size
  have hlb : lenB (byS s) s.size ≤ s.size := by have := spB_le (byS s) s.size; unfold lenB; omega
  have hlc : lenC (byS s) s.size ≤ s.size := by unfold lenC; omega
  have hfb : spA (byS s) s.size < s.size → spB (byS s) s.size = spA (byS s) s.size + 1 + lenB (byS s) s.size := fun h => by have := spB_gt _ _ h; unfold lenB; omega
  have HE := Lib.hid (And.intro ea (And.intro eb (And.intro ec hfb)))
  have hza : (pA s).size ≤ 1000000 := by omega
  have hzb : (pB s).size ≤ 1000000 := by omega
  have hzc : (pC s).size ≤ 1000000 := by omega
  clear ea eb ec hla hlb hlc hfb
  have HW : Hid (∀ n x : Nat, longS (byS s) s.size = if 16 < (pA s).size then 400 else if 1024 < (pB s).size then 414 else if 512 < (pC s).size then 400 else 0) := Lib.hid (fun _ _ => by rw [HE.out.1, HE.out.2.1, HE.out.2.2.1]; rfl)
  have HP : Hid (longP (byS s) s.size = if 16 < (pA s).size then 16 else if 1024 < (pB s).size then (pA s).size + 1 + 1024 else if 512 < (pC s).size then (pA s).size + 1 + ((pB s).size + 1) + 512 else s.size) := Lib.hid (by
    rw [HE.out.1, HE.out.2.1, HE.out.2.2.1]
    unfold longP
    split
    · rfl
    · split
      · rfl
      · split
        · rename_i h
          have := HE.out.2.2.2 (by have := spA_le (byS s) s.size; have := spB_end (byS s) s.size; unfold lenC at h; omega)
          omega
        · rfl)
  have z1 := gr_alloc h1 (.cells #[.string (pA s), .string (pB s), .string (pC s), .int .i64 (partN (byS s) s.size : Int)] 49)
  have b1 := Blk.new W1 49 #[.string (pA s), .string (pB s), .string (pC s), .int .i64 (partN (byS s) s.size : Int)]
  have H1 := Lib.hid (And.intro z1 b1)
  clear z1 b1 h1
  generalize (partN (byS s) s.size : Int) = N at H1 ⊢
  generalize pA s = a at *
  generalize pB s = b at *
  generalize pC s = c at *
  go_wp2_with (fail)
  go_loopw [10] (fun k wr => LongRel a b c N w W1.heap.size k wr) (fun k _ => 3 - (intOf k).toNat)
  case atStart => exact ⟨0, by omega, rfl, by omega, by omega, by omega, H1.out.2, H1.out.1⟩
  case round =>
    obtain ⟨j, hj, rfl, ja, jb, jc, hblk, hbel⟩ := hrel
    have x0 := hblk.cell' (i := 0) rfl
    have x1 := hblk.cell' (i := 1) rfl
    have x2 := hblk.cell' (i := 2) rfl
    have x3 := hblk.cell' (i := 3) rfl
    have hl := hblk.lt
    have HB := Lib.hid (And.intro hblk hbel)
    have HJ := Lib.hid (And.intro ja (And.intro jb jc))
    clear hblk hbel ja jb jc
    have hj4 : j = 0 ∨ j = 1 ∨ j = 2 ∨ j = 3 := by omega
    rcases hj4 with rfl | rfl | rfl | rfl
    · by_cases hle : (a.size : Int) ≤ 16
      · go_wp2_with (fail)
        exact ⟨⟨1, by omega, rfl, fun _ => by omega, by omega, by omega, HB.out⟩, by simp [intOf]⟩
      · go_wp2_with (fail)
        refine (bfrom a b c N 0 (by omega) hza hzb _).mono ?_
        rintro e W2 ⟨rfl, h2⟩
        have H2 := Lib.hid (gr_call HB.out.2 h2)
        clear h2
        unfold fromN
        go_wp2_with (fail)
        go_ret2
        refine ⟨?_, H2.out⟩
        rw [HW.out 0 0, HP.out, if_pos (by omega), if_pos (by omega)]
        rfl
    · by_cases hle : (b.size : Int) ≤ 1024
      · go_wp2_with (fail)
        exact ⟨⟨2, by omega, rfl, fun _ => HJ.out.1 (by omega), fun _ => by omega, by omega, HB.out⟩, by simp [intOf]⟩
      · go_wp2_with (fail)
        refine (bfrom a b c N 1 (by omega) hza hzb _).mono ?_
        rintro e W2 ⟨rfl, h2⟩
        have H2 := Lib.hid (gr_call HB.out.2 h2)
        clear h2
        unfold fromN
        go_wp2_with (fail)
        go_ret2
        refine ⟨?_, H2.out⟩
        have h16 := HJ.out.1 (by omega)
        rw [HW.out 0 0, HP.out, if_neg (show ¬ 16 < a.size by omega), if_pos (show 1024 < b.size by omega), if_neg (show ¬ 16 < a.size by omega), if_pos (show 1024 < b.size by omega)]
        rfl
    · by_cases hle : (c.size : Int) ≤ 512
      · go_wp2_with (fail)
        exact ⟨⟨3, by omega, rfl, fun _ => HJ.out.1 (by omega), fun _ => HJ.out.2.1 (by omega), fun _ => by omega, HB.out⟩, by simp [intOf]⟩
      · go_wp2_with (fail)
        refine (bfrom a b c N 2 (by omega) hza hzb _).mono ?_
        rintro e W2 ⟨rfl, h2⟩
        have H2 := Lib.hid (gr_call HB.out.2 h2)
        clear h2
        unfold fromN
        go_wp2_with (fail)
        go_ret2
        refine ⟨?_, H2.out⟩
        have h16 := HJ.out.1 (by omega)
        have h17 := HJ.out.2.1 (by omega)
        rw [HW.out 0 0, HP.out, if_neg (show ¬ 16 < a.size by omega), if_neg (show ¬ 1024 < b.size by omega), if_pos (show 512 < c.size by omega), if_neg (show ¬ 16 < a.size by omega), if_neg (show ¬ 1024 < b.size by omega), if_pos (show 512 < c.size by omega)]
        rfl
    · go_wp2_with (fail)
      go_ret2
      refine ⟨?_, HB.out.2⟩
      have h16 := HJ.out.1 (by omega)
      have h17 := HJ.out.2.1 (by omega)
      have h18 := HJ.out.2.2 (by omega)
      rw [HW.out 0 0, HP.out, if_neg (show ¬ 16 < a.size by omega), if_neg (show ¬ 1024 < b.size by omega), if_neg (show ¬ 512 < c.size by omega), if_neg (show ¬ 16 < a.size by omega), if_neg (show ¬ 1024 < b.size by omega), if_neg (show ¬ 512 < c.size by omega)]
      rfl
end Go.Proofs.YtllhcfgddcjfkaaDoor
