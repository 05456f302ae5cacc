/-
  The statements of percent, walked: PercentCuts, PercentReads, PercentWrites return true, whatever the input; condition: none.
-/
import Derived.Test.YtgbnppdcolednaaPctLawB
import Derived.Deep.RegionHeld3
namespace Go.Proofs.Ytgbnppdcolednaa
open Go.RowKit
set_option linter.unusedVariables false
set_option linter.unusedSimpArgs false

set_option maxRecDepth 100000 in
set_option maxHeartbeats 2000000 in
theorem law_cuts (s : ByteArray) (n : Int) (w : World) :
    Calls Try.prog 3 #[.string s, .int .i64 n] w fun e w' => e = .returned (.bool true) ∧ Below w.heap.size w w' := by
  by_cases hl : (500 : Int) < s.size
  · go_enter Try.func3, Try.ntmps3
    go_wp2_with (fail)
    refine (awake _).mono ?_
    rintro e W1 ⟨rfl, h1⟩
    go_wp2_with (fail)
    go_ret
    exact ⟨rfl, gr_call (Below.refl _ _) h1⟩
  · have hs : s.size ≤ 1000000000 := by omega
    have hl' : (s.size : Int) ≤ 500 := by omega
    clear hl
    go_enter Try.func3, Try.ntmps3
    have I0 : Below w.heap.size w w := Below.refl _ _
    go_wp2_with (fail)
    refine (pcut s n _ hs).mono ?_
    rintro e W1 ⟨rfl, h1⟩
    have I1c := gr_call I0 h1
    clear h1
    go_wp2_with (fail)
    refine (rcut s n _ hs).mono ?_
    rintro e W2 ⟨rfl, h2⟩
    have I2c := gr_call I1c h2
    clear h2
    go_wp2_with (fail)
    refine (poffset s n _ hs).mono ?_
    rintro e W3 ⟨rfl, h3⟩
    have I3c := gr_call I2c h3
    clear h3
    go_wp2_with (fail)
    refine (roffset s n _ hs).mono ?_
    rintro e W4 ⟨rfl, h4⟩
    have I4c := gr_call I3c h4
    clear h4
    go_wp2_with (fail)
    refine (awake _).mono ?_
    rintro e W5 ⟨rfl, h5⟩
    have I5c := gr_call I4c h5
    clear h5
    go_wp2_with (fail)
    go_ret
    exact ⟨rfl, I5c⟩

set_option maxRecDepth 100000 in
set_option maxHeartbeats 4000000 in
theorem law_reads (S : Nat → Nat) (hS : ∀ k, S k < 2 ^ 64) (s : ByteArray) (w : World) :
    Calls Try.prog 4 #[.string s, .agg #[.int .u64 (S 0 : Int), .int .u64 (S 1 : Int), .int .u64 (S 2 : Int), .int .u64 (S 3 : Int)]] w fun e w' => e = .returned (.bool true) ∧ Below w.heap.size w w' := by
  have hS := Lib.hid hS
  by_cases hl : (500 : Int) < s.size
  · go_enter Try.func4, Try.ntmps4
    go_wp2_with (fail)
    refine (awake _).mono ?_
    rintro e W1 ⟨rfl, h1⟩
    go_wp2_with (fail)
    go_ret
    exact ⟨rfl, gr_call (gr_alloc (Below.refl _ _) _) h1⟩
  · have hs : s.size ≤ 1000000000 := by omega
    have hl' : (s.size : Int) ≤ 500 := by omega
    clear hl
    go_enter Try.func4, Try.ntmps4
    have I00 : Below w.heap.size w w := Below.refl _ _
    have I0 := gr_alloc I00 (.cells #[.int .u64 (S 0 : Int), .int .u64 (S 1 : Int), .int .u64 (S 2 : Int), .int .u64 (S 3 : Int)] 31)
    have FS := Blk.new w 31 #[.int .u64 (S 0 : Int), .int .u64 (S 1 : Int), .int .u64 (S 2 : Int), .int .u64 (S 3 : Int)]
    go_wp2_with (fail)
    refine (pdecode s _ hs).mono ?_
    rintro e W1 ⟨rfl, h1⟩
    have I1c := gr_call I0 h1
    have FS_1 := FS.call h1
    have F1 := Blk.new (W1) 33 #[.int .i64 (rErr s), .int .i64 (rAt s)]
    have FSa1 := FS_1.alloc (.cells #[.int .i64 (rErr s), .int .i64 (rAt s)] 33)
    have I1a1 := gr_alloc I1c (.cells #[.int .i64 (rErr s), .int .i64 (rAt s)] 33)
    clear h1
    go_wp2_with (fail)
    refine (rdecode s _ hs).mono ?_
    rintro e W2 ⟨rfl, h2⟩
    have I2c := gr_call I1a1 h2
    have FS_2 := FSa1.call h2
    have F1_2 := F1.call h2
    have F2 := Blk.new (W2) 33 #[.int .i64 (rErr s), .int .i64 (rAt s)]
    have FSa2 := FS_2.alloc (.cells #[.int .i64 (rErr s), .int .i64 (rAt s)] 33)
    have F1a2 := F1_2.alloc (.cells #[.int .i64 (rErr s), .int .i64 (rAt s)] 33)
    have I2a2 := gr_alloc I2c (.cells #[.int .i64 (rErr s), .int .i64 (rAt s)] 33)
    clear h2
    have FSc0 := FSa2.cell' (i := 0) (v := .int .u64 (S 0 : Int)) rfl
    have FSc1 := FSa2.cell' (i := 1) (v := .int .u64 (S 1 : Int)) rfl
    have FSc2 := FSa2.cell' (i := 2) (v := .int .u64 (S 2 : Int)) rfl
    have FSc3 := FSa2.cell' (i := 3) (v := .int .u64 (S 3 : Int)) rfl
    go_wp2_with (fail)
    refine (pcanonical S hS.out s _ hs).mono ?_
    rintro e W3 ⟨rfl, h3⟩
    have I3c := gr_call I2a2 h3
    have FS_3 := FSa2.call h3
    have F1_3 := F1a2.call h3
    have F2_3 := F2.call h3
    have F3 := Blk.new (W3) 33 #[.int .i64 (rErr s), .int .i64 (rAt s)]
    have FSa3 := FS_3.alloc (.cells #[.int .i64 (rErr s), .int .i64 (rAt s)] 33)
    have F1a3 := F1_3.alloc (.cells #[.int .i64 (rErr s), .int .i64 (rAt s)] 33)
    have F2a3 := F2_3.alloc (.cells #[.int .i64 (rErr s), .int .i64 (rAt s)] 33)
    have I3a3 := gr_alloc I3c (.cells #[.int .i64 (rErr s), .int .i64 (rAt s)] 33)
    clear h3
    clear FSc0 FSc1 FSc2 FSc3
    have FSc0 := FSa3.cell' (i := 0) (v := .int .u64 (S 0 : Int)) rfl
    have FSc1 := FSa3.cell' (i := 1) (v := .int .u64 (S 1 : Int)) rfl
    have FSc2 := FSa3.cell' (i := 2) (v := .int .u64 (S 2 : Int)) rfl
    have FSc3 := FSa3.cell' (i := 3) (v := .int .u64 (S 3 : Int)) rfl
    go_wp2_with (fail)
    refine (rcanonical S hS.out s _ hs).mono ?_
    rintro e W4 ⟨rfl, h4⟩
    have I4c := gr_call I3a3 h4
    have FS_4 := FSa3.call h4
    have F1_4 := F1a3.call h4
    have F2_4 := F2a3.call h4
    have F3_4 := F3.call h4
    have F4 := Blk.new (W4) 33 #[.int .i64 (rErr s), .int .i64 (rAt s)]
    have FSa4 := FS_4.alloc (.cells #[.int .i64 (rErr s), .int .i64 (rAt s)] 33)
    have F1a4 := F1_4.alloc (.cells #[.int .i64 (rErr s), .int .i64 (rAt s)] 33)
    have F2a4 := F2_4.alloc (.cells #[.int .i64 (rErr s), .int .i64 (rAt s)] 33)
    have F3a4 := F3_4.alloc (.cells #[.int .i64 (rErr s), .int .i64 (rAt s)] 33)
    have I4a4 := gr_alloc I4c (.cells #[.int .i64 (rErr s), .int .i64 (rAt s)] 33)
    clear h4
    go_wp2_with (fail)
    refine (pescapes s _ hs).mono ?_
    rintro e W5 ⟨rfl, h5⟩
    have I5c := gr_call I4a4 h5
    have FS_5 := FSa4.call h5
    have F1_5 := F1a4.call h5
    have F2_5 := F2a4.call h5
    have F3_5 := F3a4.call h5
    have F4_5 := F4.call h5
    have F5 := Blk.new (W5) 33 #[.int .i64 (rErr s), .int .i64 (rAt s)]
    have FSa5 := FS_5.alloc (.cells #[.int .i64 (rErr s), .int .i64 (rAt s)] 33)
    have F1a5 := F1_5.alloc (.cells #[.int .i64 (rErr s), .int .i64 (rAt s)] 33)
    have F2a5 := F2_5.alloc (.cells #[.int .i64 (rErr s), .int .i64 (rAt s)] 33)
    have F3a5 := F3_5.alloc (.cells #[.int .i64 (rErr s), .int .i64 (rAt s)] 33)
    have F4a5 := F4_5.alloc (.cells #[.int .i64 (rErr s), .int .i64 (rAt s)] 33)
    have I5a5 := gr_alloc I5c (.cells #[.int .i64 (rErr s), .int .i64 (rAt s)] 33)
    clear h5
    go_wp2_with (fail)
    refine (rescapes s _ hs).mono ?_
    rintro e W6 ⟨rfl, h6⟩
    have I6c := gr_call I5a5 h6
    have FS_6 := FSa5.call h6
    have F1_6 := F1a5.call h6
    have F2_6 := F2a5.call h6
    have F3_6 := F3a5.call h6
    have F4_6 := F4a5.call h6
    have F5_6 := F5.call h6
    have F6 := Blk.new (W6) 33 #[.int .i64 (rErr s), .int .i64 (rAt s)]
    have FSa6 := FS_6.alloc (.cells #[.int .i64 (rErr s), .int .i64 (rAt s)] 33)
    have F1a6 := F1_6.alloc (.cells #[.int .i64 (rErr s), .int .i64 (rAt s)] 33)
    have F2a6 := F2_6.alloc (.cells #[.int .i64 (rErr s), .int .i64 (rAt s)] 33)
    have F3a6 := F3_6.alloc (.cells #[.int .i64 (rErr s), .int .i64 (rAt s)] 33)
    have F4a6 := F4_6.alloc (.cells #[.int .i64 (rErr s), .int .i64 (rAt s)] 33)
    have F5a6 := F5_6.alloc (.cells #[.int .i64 (rErr s), .int .i64 (rAt s)] 33)
    have I6a6 := gr_alloc I6c (.cells #[.int .i64 (rErr s), .int .i64 (rAt s)] 33)
    clear h6
    clear FSc0 FSc1 FSc2 FSc3
    have F1c0 := F1a6.cell' (i := 0) (v := .int .i64 (rErr s)) rfl
    have F1c1 := F1a6.cell' (i := 1) (v := .int .i64 (rAt s)) rfl
    have F2c0 := F2a6.cell' (i := 0) (v := .int .i64 (rErr s)) rfl
    have F2c1 := F2a6.cell' (i := 1) (v := .int .i64 (rAt s)) rfl
    have F3c0 := F3a6.cell' (i := 0) (v := .int .i64 (rErr s)) rfl
    have F3c1 := F3a6.cell' (i := 1) (v := .int .i64 (rAt s)) rfl
    have F4c0 := F4a6.cell' (i := 0) (v := .int .i64 (rErr s)) rfl
    have F4c1 := F4a6.cell' (i := 1) (v := .int .i64 (rAt s)) rfl
    have F5c0 := F5a6.cell' (i := 0) (v := .int .i64 (rErr s)) rfl
    have F5c1 := F5a6.cell' (i := 1) (v := .int .i64 (rAt s)) rfl
    have F6c0 := F6.cell' (i := 0) (v := .int .i64 (rErr s)) rfl
    have F6c1 := F6.cell' (i := 1) (v := .int .i64 (rAt s)) rfl
    go_wp2_with (fail)
    refine (awake _).mono ?_
    rintro e W7 ⟨rfl, h7⟩
    have I7c := gr_call I6a6 h7
    have FS_7 := FSa6.call h7
    have F1_7 := F1a6.call h7
    have F2_7 := F2a6.call h7
    have F3_7 := F3a6.call h7
    have F4_7 := F4a6.call h7
    have F5_7 := F5a6.call h7
    have F6_7 := F6.call h7
    clear h7
    go_wp2_with (fail)
    go_ret
    exact ⟨rfl, I7c⟩

set_option maxRecDepth 100000 in
set_option maxHeartbeats 4000000 in
theorem law_writes (S : Nat → Nat) (hS : ∀ k, S k < 2 ^ 64) (s : ByteArray) (w : World) :
    Calls Try.prog 5 #[.string s, .agg #[.int .u64 (S 0 : Int), .int .u64 (S 1 : Int), .int .u64 (S 2 : Int), .int .u64 (S 3 : Int)]] w fun e w' => e = .returned (.bool true) ∧ Below w.heap.size w w' := by
  have hS := Lib.hid hS
  by_cases hl : (500 : Int) < s.size
  · go_enter Try.func5, Try.ntmps5
    go_wp2_with (fail)
    refine (awake _).mono ?_
    rintro e W1 ⟨rfl, h1⟩
    go_wp2_with (fail)
    go_ret
    exact ⟨rfl, gr_call (gr_alloc (Below.refl _ _) _) h1⟩
  · have hs : s.size ≤ 1000000000 := by omega
    have hl' : (s.size : Int) ≤ 500 := by omega
    clear hl
    go_enter Try.func5, Try.ntmps5
    go_wp2_with (fail)
    go_region_held3 (fun w' => w'.cell? ⟨w.heap.size, 0, none⟩ = some (.int .u64 (S 0 : Int)) ∧ w'.cell? ⟨w.heap.size, 1, none⟩ = some (.int .u64 (S 1 : Int)) ∧ w'.cell? ⟨w.heap.size, 2, none⟩ = some (.int .u64 (S 2 : Int)) ∧ w'.cell? ⟨w.heap.size, 3, none⟩ = some (.int .u64 (S 3 : Int)))
      (first
        | go_keep
        | (go_split_ands
           refine ⟨?_, ?_, ?_, ?_⟩ <;> (rw [hb.cell (by first | omega | (simp; done) | (simp; omega))]; assumption)))
      (first
        | (go_at_call 21; refine (pencode S hS.out s _ hs).mono ?_; rintro e W ⟨rfl, hb⟩; have hz : w.heap.size < W.heap.size := (by first | exact Nat.lt_of_lt_of_le (by simp) hb.size | exact Nat.lt_of_lt_of_le (by simpa using hz) hb.size); have HB : Below w.heap.size w W := (by first | exact gr_call HB hb | exact gr_call (gr_drew (gr_alloc (Below.refl _ _) _)) hb))
        | (go_at_call 22; refine (rencode S hS.out s _ hs).mono ?_; rintro e W ⟨rfl, hb⟩; have hz : w.heap.size < W.heap.size := (by first | exact Nat.lt_of_lt_of_le (by simp) hb.size | exact Nat.lt_of_lt_of_le (by simpa using hz) hb.size); have HB : Below w.heap.size w W := (by first | exact gr_call HB hb | exact gr_call (gr_drew (gr_alloc (Below.refl _ _) _)) hb))
        | (go_at_call 23; refine (plength S hS.out s _ hs).mono ?_; rintro e W ⟨rfl, hb⟩; have hz : w.heap.size < W.heap.size := (by first | exact Nat.lt_of_lt_of_le (by simp) hb.size | exact Nat.lt_of_lt_of_le (by simpa using hz) hb.size); have HB : Below w.heap.size w W := (by first | exact gr_call HB hb | exact gr_call (gr_drew (gr_alloc (Below.refl _ _) _)) hb))
        | (go_at_call 24; refine (rlength S hS.out s _ hs).mono ?_; rintro e W ⟨rfl, hb⟩; have hz : w.heap.size < W.heap.size := (by first | exact Nat.lt_of_lt_of_le (by simp) hb.size | exact Nat.lt_of_lt_of_le (by simpa using hz) hb.size); have HB : Below w.heap.size w W := (by first | exact gr_call HB hb | exact gr_call (gr_drew (gr_alloc (Below.refl _ _) _)) hb))
        | (go_at_call 25; refine (pis S hS.out s _ hs).mono ?_; rintro e W ⟨rfl, hb⟩; have hz : w.heap.size < W.heap.size := (by first | exact Nat.lt_of_lt_of_le (by simp) hb.size | exact Nat.lt_of_lt_of_le (by simpa using hz) hb.size); have HB : Below w.heap.size w W := (by first | exact gr_call HB hb | exact gr_call (gr_drew (gr_alloc (Below.refl _ _) _)) hb))
        | (go_at_call 26; refine (ris S hS.out s _ hs).mono ?_; rintro e W ⟨rfl, hb⟩; have hz : w.heap.size < W.heap.size := (by first | exact Nat.lt_of_lt_of_le (by simp) hb.size | exact Nat.lt_of_lt_of_le (by simpa using hz) hb.size); have HB : Below w.heap.size w W := (by first | exact gr_call HB hb | exact gr_call (gr_drew (gr_alloc (Below.refl _ _) _)) hb))
        | (go_at_call 10; refine (awake _).mono ?_; rintro e W ⟨rfl, hb⟩; have hz : w.heap.size < W.heap.size := (by first | exact Nat.lt_of_lt_of_le (by simp) hb.size | exact Nat.lt_of_lt_of_le (by simpa using hz) hb.size); have HB : Below w.heap.size w W := (by first | exact gr_call HB hb | exact gr_call (gr_drew (gr_alloc (Below.refl _ _) _)) hb)))
    go_wp2_with (fail)
    go_ret
    exact ⟨rfl, HB⟩
end Go.Proofs.Ytgbnppdcolednaa
