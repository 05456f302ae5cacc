/-
  The statements of percent, walked: PercentBack returns true, whatever the input; condition: none.
-/
import Derived.Test.YtgbnppdcolednaaPctLawB
import Derived.Test.YtgbnppdcolednaaPctPlain
namespace Go.Proofs.Ytgbnppdcolednaa
open Go.RowKit
set_option linter.unusedVariables false
set_option linter.unusedSimpArgs false

def BackRel (S : Nat → Nat) (s : ByteArray) (w0 : World) (g0 g1 : Nat) (n : Nat) (c i : Value) (wr : World) : Prop :=
  ∃ k : Nat, k ≤ s.size ∧ n = s.size - k ∧ i = .int .i64 (k : Int) ∧ c = .int .i64 (escN S (s.data.toList.take k) : Int) ∧ Below w0.heap.size w0 wr ∧
    Blk wr g0 31 #[.int .u64 (S 0 : Int), .int .u64 (S 1 : Int), .int .u64 (S 2 : Int), .int .u64 (S 3 : Int)] ∧ Blk wr g1 33 #[.int .i64 0, .int .i64 0]

theorem set_getA (S : Nat → Nat) (k : Nat) (hk : k < 4) : (#[Value.int .u64 (S 0 : Int), .int .u64 (S 1 : Int), .int .u64 (S 2 : Int), .int .u64 (S 3 : Int)] : Array Value)[k]? = some (.int .u64 (S k : Int)) := by
  rw [← set_get S k hk]; exact List.getElem?_toArray ..

theorem bit_zero (x k : Nat) (hx : x < 18446744073709551616) : (bits .and .u64 ((x : Int) / 2 ^ k) 1 == 0) = !x.testBit k := by
  have e : ((x : Int) / 2 ^ k) = ((x / 2 ^ k : Nat) : Int) := by simp
  have hle : x / 2 ^ k ≤ x := Nat.div_le_self _ _
  rw [e, show (1 : Int) = ((1 : Nat) : Int) from rfl, u64_and_nat _ _ (by omega) (by omega), nat_mask1, Nat.testBit_eq_decide_div_mod_eq]
  rw [Bool.eq_iff_iff]
  simp only [beq_iff_eq, decide_eq_true_eq, Bool.not_eq_true', decide_eq_false_iff_not]
  omega

theorem escN_take (S : Nat → Nat) (s : ByteArray) (k : Nat) (h : k < s.size) : escN S (s.data.toList.take (k + 1)) = escN S (s.data.toList.take k) + (if s[k] ≠ 37 ∧ hasS S s[k] = true then 0 else 1) := by
  rw [take_at s k h, escN_append]; simp [escN]

set_option maxRecDepth 100000 in
set_option maxHeartbeats 4000000 in
theorem law_back (S : Nat → Nat) (hS : ∀ k, S k < 2 ^ 64) (s : ByteArray) (w : World) :
    Calls Try.prog 7 #[.string s, .agg #[.int .u64 (S 0 : Int), .int .u64 (S 1 : Int), .int .u64 (S 2 : Int), .int .u64 (S 3 : Int)]] w fun e w' => e = .returned (.bool true) ∧ Below w.heap.size w w' := by
  have hS := Lib.hid hS
  by_cases hl : (300 : Int) < s.size
  · go_enter Try.func7, Try.ntmps7
    go_wp2_with (fail)
    refine (known _).mono ?_
    rintro e W1 ⟨rfl, h1⟩
    go_wp2_with (fail)
    go_ret
    exact ⟨rfl, gr_call (gr_alloc (Below.refl _ _) _) h1⟩
  · have hs : s.size ≤ 1000000000 := by omega
    have hl' : (s.size : Int) ≤ 300 := by omega
    clear hl
    obtain ⟨T, hT⟩ : ∃ T, T = encS S s := ⟨_, rfl⟩
    have hTs : (T.size : Int) = s.size + 2 * escN S s.data.toList := by rw [hT, encS_size]; omega
    have hTn := escN_le S s.data.toList
    rw [size_data] at hTn
    have hTz : T.size ≤ 1000000000 := by omega
    have H := Lib.hid (show encS S s = T ∧ okS T ∧ rOut T = s ∧ canS S T = T ∧ rErr T = 0 ∧ rAt T = 0 from by
      subst hT; exact ⟨rfl, okS_enc S s, rOut_enc S s, canS_enc S s, (rOk (okS_enc S s)).1, (rOk (okS_enc S s)).2.1⟩)
    have HT := Lib.hid hTs
    clear hT hTs
    have I00 : Below w.heap.size w w := Below.refl _ _
    have I0 := gr_alloc I00 (.cells #[.int .u64 (S 0 : Int), .int .u64 (S 1 : Int), .int .u64 (S 2 : Int), .int .u64 (S 3 : Int)] 31)
    have FS := Blk.new w 31 #[.int .u64 (S 0 : Int), .int .u64 (S 1 : Int), .int .u64 (S 2 : Int), .int .u64 (S 3 : Int)]
    go_enter Try.func7, Try.ntmps7
    go_wp2_with (fail)
    refine (known _).mono ?_
    rintro e W1 ⟨rfl, h1⟩
    have I1 := gr_call I0 h1
    have FS1 := FS.call h1
    clear h1 FS I0 I00
    have c0 := FS1.cell' (i := 0) (v := .int .u64 (S 0 : Int)) rfl
    have c1 := FS1.cell' (i := 1) (v := .int .u64 (S 1 : Int)) rfl
    have c2 := FS1.cell' (i := 2) (v := .int .u64 (S 2 : Int)) rfl
    have c3 := FS1.cell' (i := 3) (v := .int .u64 (S 3 : Int)) rfl
    go_wp2_with (fail)
    refine (pencode S hS.out s _ hs).mono ?_
    rintro e W2 ⟨rfl, h2⟩
    rw [H.out.1]
    have I2 := gr_call I1 h2
    have FS2 := FS1.call h2
    clear h2 FS1 I1 c0 c1 c2 c3
    have c0 := FS2.cell' (i := 0) (v := .int .u64 (S 0 : Int)) rfl
    have c1 := FS2.cell' (i := 1) (v := .int .u64 (S 1 : Int)) rfl
    have c2 := FS2.cell' (i := 2) (v := .int .u64 (S 2 : Int)) rfl
    have c3 := FS2.cell' (i := 3) (v := .int .u64 (S 3 : Int)) rfl
    go_wp2_with (fail)
    refine (pcanonical S hS.out T _ hTz).mono ?_
    rintro e W3 ⟨rfl, h3⟩
    rw [H.out.2.2.2.1, H.out.2.2.2.2.1, H.out.2.2.2.2.2]
    have I3 := gr_call I2 h3
    have FS3 := FS2.call h3
    have F := Blk.new W3 33 #[.int .i64 0, .int .i64 0]
    have FSa := FS3.alloc (.cells #[.int .i64 0, .int .i64 0] 33)
    have I3a := gr_alloc I3 (.cells #[.int .i64 0, .int .i64 0] 33)
    have hg3 := FS3.lt
    clear h3 FS2 I2 c0 c1 c2 c3 FS3 I3
    go_wp2_with (fail)
    go_loopg [9, 10] s.size (fun n c i wr => BackRel S s w w.heap.size W3.heap.size n c i wr)
    case atStart => exact ⟨0, Nat.zero_le _, rfl, rfl, by simp [escN], I3a, FSa, F⟩
    case round =>
      obtain ⟨k, hk, hm, rfl, rfl, hbel, hbk, hbf⟩ := hrel
      have hle := escN_le S (s.data.toList.take k)
      rw [List.length_take] at hle
      clear I3a FSa F
      by_cases hlt : k < s.size
      · obtain ⟨x, hx⟩ : ∃ x, x = s[k] := ⟨_, rfl⟩
        have hxs : s[k] = x := hx.symm
        have hx0 : (x.toNat : Int) < 256 := u8_bound x
        have hx1 : 0 ≤ (x.toNat : Int) := by omega
        have hg := set_getA S (x.toNat / 64) (by omega)
        have hb : (S (x.toNat / 64) : Int) < 18446744073709551616 := by have := hS.out (x.toNat / 64); omega
        have hb0 : 0 ≤ (S (x.toNat / 64) : Int) := by omega
        have cx := hbk.cell' (i := x.toNat / 64) hg
        have D := Lib.hid (escN_take S s k hlt)
        have A1 := Lib.hid (And.intro hm (And.intro hbel (And.intro hbk (And.intro hbf hx))))
        clear hm hbel hbk hbf hx hg
        by_cases h37 : x = 37
        · subst h37
          go_wp2_with (fail)
          go_quiet (fail)
          go_wp2_with (fail)
          go_roundg (s.size - (k + 1))
          case measure => have := A1.out.1; omega
          case rel =>
            obtain ⟨_, a2, a3, a4, a5⟩ := A1.out
            have d := D.out
            rw [← a5, if_neg (by simp)] at d
            exact ⟨k + 1, by omega, rfl, rfl, by congr 1; omega, below_drewN a2 _, a3.drewN _, a4.drewN _⟩
        · have h37' : ((x.toNat : Int) == 37) = false := by simpa using fun e => h37 (u8_ext (by simpa using e))
          have H37 := Lib.hid h37
          clear h37
          cases hhas : hasS S x
          · have hbit := bit_zero (S (x.toNat / 64)) (x.toNat % 64) (by omega)
            rw [show (S (x.toNat / 64)).testBit (x.toNat % 64) = false from hhas] at hbit
            simp only [Bool.not_false] at hbit
            have hH := Lib.hid hhas
            clear hhas
            go_wp2_with (fail)
            go_quiet (fail)
            go_wp2_with (fail)
            go_roundg (s.size - (k + 1))
            case measure => have := A1.out.1; omega
            case rel =>
              obtain ⟨_, a2, a3, a4, a5⟩ := A1.out
              have d := D.out
              rw [← a5, if_neg (by rw [hH.out]; simp)] at d
              exact ⟨k + 1, by omega, rfl, rfl, by congr 1; omega, below_drewN a2 _, a3.drewN _, a4.drewN _⟩
          · have hbit := bit_zero (S (x.toNat / 64)) (x.toNat % 64) (by omega)
            rw [show (S (x.toNat / 64)).testBit (x.toNat % 64) = true from hhas] at hbit
            simp only [Bool.not_true] at hbit
            have hH := Lib.hid hhas
            clear hhas
            go_wp2_with (fail)
            go_quiet (fail)
            go_wp2_with (fail)
            go_roundg (s.size - (k + 1))
            case measure => have := A1.out.1; omega
            case rel =>
              obtain ⟨_, a2, a3, a4, a5⟩ := A1.out
              have d := D.out
              rw [← a5, if_pos ⟨H37.out, hH.out⟩] at d
              exact ⟨k + 1, by omega, rfl, rfl, by congr 1; omega, below_drewN a2 _, a3.drewN _, a4.drewN _⟩
      · have hke : k = s.size := by omega
        have hke' : escN S (s.data.toList.take k) = escN S s.data.toList := by rw [List.take_of_length_le (by rw [size_data]; omega)]
        rw [hke']
        have hT' := HT.out
        have c0 := hbk.cell' (i := 0) (v := .int .u64 (S 0 : Int)) rfl
        have c1 := hbk.cell' (i := 1) (v := .int .u64 (S 1 : Int)) rfl
        have c2 := hbk.cell' (i := 2) (v := .int .u64 (S 2 : Int)) rfl
        have c3 := hbk.cell' (i := 3) (v := .int .u64 (S 3 : Int)) rfl
        have f0 := hbf.cell' (i := 0) (v := .int .i64 0) rfl
        have f1 := hbf.cell' (i := 1) (v := .int .i64 0) rfl
        have hgf := hbf.lt
        have hgs := hbk.lt
        have hTe : ((T.size : Int) == s.size + 2 * escN S s.data.toList) = true := by simpa using hT'
        have A1 := Lib.hid (And.intro hm (And.intro hke hke'))
        clear hm hke hke' hT' HT
        go_wp2_with (fail)
        refine (psays T s _ hTz).mono ?_
        rintro e W4 ⟨rfl, h4⟩
        rw [show (decide (okS T) && decide (rOut T = s)) = true from by simp [H.out.2.1, H.out.2.2.1]]
        have I4 := gr_call hbel h4
        have FS4 := hbk.below h4 hgs
        have F4 := hbf.below h4 hgf
        clear h4 c0 c1 c2 c3 f0 f1 hbel hbk hbf
        have c0 := FS4.cell' (i := 0) (v := .int .u64 (S 0 : Int)) rfl
        have c1 := FS4.cell' (i := 1) (v := .int .u64 (S 1 : Int)) rfl
        have c2 := FS4.cell' (i := 2) (v := .int .u64 (S 2 : Int)) rfl
        have c3 := FS4.cell' (i := 3) (v := .int .u64 (S 3 : Int)) rfl
        have f0 := F4.cell' (i := 0) (v := .int .i64 0) rfl
        have f1 := F4.cell' (i := 1) (v := .int .i64 0) rfl
        go_wp2_with (fail)
        refine (pis S hS.out T _ hTz).mono ?_
        rintro e W5 ⟨rfl, h5⟩
        rw [show (decide (okS T) && decide (canS S T = T)) = true from by simp [H.out.2.1, H.out.2.2.2.1]]
        have I5 := gr_call I4 h5
        have FS5 := FS4.call h5
        clear h5 c0 c1 c2 c3 f0 f1 I4 FS4 F4
        have c0 := FS5.cell' (i := 0) (v := .int .u64 (S 0 : Int)) rfl
        have c1 := FS5.cell' (i := 1) (v := .int .u64 (S 1 : Int)) rfl
        have c2 := FS5.cell' (i := 2) (v := .int .u64 (S 2 : Int)) rfl
        have c3 := FS5.cell' (i := 3) (v := .int .u64 (S 3 : Int)) rfl
        go_wp2_with (fail)
        refine (plength S hS.out s _ hs).mono ?_
        rintro e W6 ⟨rfl, h6⟩
        rw [H.out.1]
        have I6 := gr_call I5 h6
        clear h6 c0 c1 c2 c3
        go_wp2_with (fail)
        go_ret
        exact ⟨rfl, I6⟩
end Go.Proofs.Ytgbnppdcolednaa
