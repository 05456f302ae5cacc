/-
  The statements of percent, walked: PercentJoins returns true, whatever the input; condition: none.
-/
import Derived.Test.YtgbnppdcolednaaPctLawB
import Derived.Test.YtgbnppdcolednaaPctPlain
import Derived.Test.YtgbnppdcolednaaKin
namespace Go.Proofs.Ytgbnppdcolednaa
open Go.RowKit
set_option linter.unusedVariables false
set_option linter.unusedSimpArgs false

set_option maxRecDepth 100000 in
set_option maxHeartbeats 1000000 in
theorem law_joins (S : Nat → Nat) (hS : ∀ k, S k < 2 ^ 64) (s t : ByteArray) (w : World) :
    Calls Try.prog 8 #[.string s, .string t, .agg #[.int .u64 (S 0 : Int), .int .u64 (S 1 : Int), .int .u64 (S 2 : Int), .int .u64 (S 3 : Int)]] w fun e w' => e = .returned (.bool true) ∧ Below w.heap.size w w' := by
  by_cases hl : (200 : Int) < s.size
  · go_enter Try.func8, Try.ntmps8
    go_wp2_with (fail)
    refine (known _).mono ?_
    rintro e W1 ⟨rfl, h1⟩
    go_wp2_with (fail)
    go_ret
    exact ⟨rfl, gr_call (gr_alloc (Below.refl _ _) _) h1⟩
  by_cases hm : (200 : Int) < t.size
  · have hl' : (s.size : Int) ≤ 200 := by omega
    clear hl
    go_enter Try.func8, Try.ntmps8
    go_wp2_with (fail)
    refine (known _).mono ?_
    rintro e W1 ⟨rfl, h1⟩
    go_wp2_with (fail)
    go_ret
    exact ⟨rfl, gr_call (gr_alloc (Below.refl _ _) _) h1⟩
  have hs : s.size ≤ 1000000000 := by omega
  have hl' : (s.size : Int) ≤ 200 := by omega
  have ht : t.size ≤ 1000000000 := by omega
  have hm' : (t.size : Int) ≤ 200 := by omega
  have hst : (s ++ t).size ≤ 1000000000 := by rw [ByteArray.size_append]; omega
  obtain ⟨A, hA⟩ : ∃ A, A = encS S s := ⟨_, rfl⟩
  obtain ⟨B, hB⟩ : ∃ B, B = encS S t := ⟨_, rfl⟩
  have e0 := fun W => pencode S hS s W hs
  have e1 := fun W => pencode S hS t W ht
  have e2 := fun W => pencode S hS (s ++ t) W hst
  rw [← hA] at e0
  rw [← hB] at e1
  rw [← encS_append, ← hA, ← hB] at e2
  have sA : (A.size : Int) ≤ 8388608 := by have := escN_le S s.data.toList; rw [size_data] at this; rw [hA, encS_size]; omega
  have sB : (B.size : Int) ≤ 8388608 := by have := escN_le S t.data.toList; rw [size_data] at this; rw [hB, encS_size]; omega
  have ss : (s.size : Int) ≤ 8388608 := by omega
  have st : (t.size : Int) ≤ 8388608 := by omega
  clear hl hm
  have I00 : Below w.heap.size w w := Below.refl _ _
  have I0 := gr_alloc I00 (.cells #[.int .u64 (S 0 : Int), .int .u64 (S 1 : Int), .int .u64 (S 2 : Int), .int .u64 (S 3 : Int)] 31)
  have FS := Blk.new w 31 #[.int .u64 (S 0 : Int), .int .u64 (S 1 : Int), .int .u64 (S 2 : Int), .int .u64 (S 3 : Int)]
  go_enter Try.func8, Try.ntmps8
  go_wp2_with (fail)
  refine (known _).mono ?_
  rintro e W1 ⟨rfl, h1⟩
  have HB := gr_call I0 h1
  have FS1 := FS.call h1
  have hz := FS1.lt
  have c0 := FS1.kin (i := 0) (v := .int .u64 (S 0 : Int)) rfl
  have c1 := FS1.kin (i := 1) (v := .int .u64 (S 1 : Int)) rfl
  have c2 := FS1.kin (i := 2) (v := .int .u64 (S 2 : Int)) rfl
  have c3 := FS1.kin (i := 3) (v := .int .u64 (S 3 : Int)) rfl
  clear h1 FS I0 I00 hA hB
  go_wp2_with (fail)
  refine wp_region_kin_lit (by kernel_rfl) (by kernel_rfl) ?_
  repeat (go_big_quiet_step (first | (go_at_call_of 21 (s ++ t); exact Calls.kin_of (e2 _)) | (go_at_call_of 21 s; exact Calls.kin_of (e0 _)) | (go_at_call_of 21 t; exact Calls.kin_of (e1 _))))
  refine kin_end ?_
  intro nq
  have I2 := gr_call HB nq.below
  have FS2 := FS1.call nq.below
  clear HB FS1 c0 c1 c2 c3 e0 e1 e2
  generalize nq.world = W2 at I2 FS2 ⊢
  clear nq
  go_wp2_with (fail)
  refine (pdecode s _ hs).mono ?_
  rintro e W3 ⟨rfl, h3⟩
  have I3 := gr_call I2 h3
  have FS3 := FS2.call h3
  have F1 := Blk.new W3 33 #[.int .i64 (rErr s), .int .i64 (rAt s)]
  have FS3a := FS3.alloc (.cells #[.int .i64 (rErr s), .int .i64 (rAt s)] 33)
  have I3a := gr_alloc I3 (.cells #[.int .i64 (rErr s), .int .i64 (rAt s)] 33)
  clear h3 I2 I3 FS2 FS3
  go_wp2_with (fail)
  refine (pdecode t _ ht).mono ?_
  rintro e W4 ⟨rfl, h4⟩
  have I4 := gr_call I3a h4
  have FS4 := FS3a.call h4
  have F14 := F1.call h4
  have F2 := Blk.new W4 33 #[.int .i64 (rErr t), .int .i64 (rAt t)]
  have FS4a := FS4.alloc (.cells #[.int .i64 (rErr t), .int .i64 (rAt t)] 33)
  have F14a := F14.alloc (.cells #[.int .i64 (rErr t), .int .i64 (rAt t)] 33)
  have I4a := gr_alloc I4 (.cells #[.int .i64 (rErr t), .int .i64 (rAt t)] 33)
  have f0 := F14a.cell' (i := 0) (v := .int .i64 (rErr s)) rfl
  have f1 := F2.cell' (i := 0) (v := .int .i64 (rErr t)) rfl
  clear h4 I3a FS3a F1 I4 FS4 F14
  by_cases hos : okS s
  · by_cases hot : okS t
    · rw [(rOk hos).1, (rOk hos).2.1] at *
      rw [(rOk hot).1, (rOk hot).2.1] at *
      obtain ⟨a, ha⟩ : ∃ a, a = rOut s := ⟨_, rfl⟩
      obtain ⟨b, hb⟩ : ∃ b, b = rOut t := ⟨_, rfl⟩
      have k0 := fun W => psays (s ++ t) (a ++ b) W hst
      have k1 := fun W => pis S hS s W hs
      have k2 := fun W => pencode S hS a W (by rw [ha]; exact Nat.le_trans (rOut_size s) hs)
      rw [show (decide (okS (s ++ t)) && decide (rOut (s ++ t) = a ++ b)) = true from by rw [rOut_append hos hot, ha, hb]; simp [okS_append hos hot]] at k0
      obtain ⟨E, hE⟩ : ∃ E, E = encS S a := ⟨_, rfl⟩
      rw [show (decide (okS s) && decide (canS S s = s)) = (E.toList == s.toList) from by rw [str_beq, hE, ha]; unfold canS; rw [if_pos hos]; simp [hos]] at k1
      rw [← hE] at k2
      have sa : (a.size : Int) ≤ 8388608 := by have := rOut_size s; rw [ha]; omega
      have sb : (b.size : Int) ≤ 8388608 := by have := rOut_size t; rw [hb]; omega
      have c0 := FS4a.kin (i := 0) (v := .int .u64 (S 0 : Int)) rfl
      have c1 := FS4a.kin (i := 1) (v := .int .u64 (S 1 : Int)) rfl
      have c2 := FS4a.kin (i := 2) (v := .int .u64 (S 2 : Int)) rfl
      have c3 := FS4a.kin (i := 3) (v := .int .u64 (S 3 : Int)) rfl
      clear hos hot hE
      rw [← ha, ← hb]
      clear ha hb
      go_wp2_with (fail)
      refine wp_region_kin_lit (by kernel_rfl) (by kernel_rfl) ?_
      repeat (go_big_quiet_step (first | (go_at_call 28; exact Calls.kin_of (k0 _)) | (go_at_call 25; exact Calls.kin_of (k1 _)) | (go_at_call 21; exact Calls.kin_of (k2 _))))
      refine kin_end ?_
      intro nq
      go_wp2_with (fail)
      go_ret
      exact ⟨rfl, gr_call I4a nq.below⟩
    · have g1 : (rErr t != 0) = true := by rw [(rNo hot).1]; rfl
      rw [(rOk hos).1] at f0
      go_wp2_with (fail)
      go_ret
      exact ⟨rfl, I4a⟩
  · rw [(rNo hos).1] at f0
    go_wp2_with (fail)
    go_ret
    exact ⟨rfl, I4a⟩
end Go.Proofs.Ytgbnppdcolednaa
