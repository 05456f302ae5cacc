/-
  byteset and its reference: Has, Count, letters; math/bits: OnesCount64, TrailingZeros64; condition: the library's table lies as it is laid.
-/
import Derived.Test.YtcfdadgijnmemaaDoorSetD
import Derived.Test.YtcfdadgijnmemaaDoorPop
import Derived.Lib.TrailingZeros
import Derived.Laws.Bits64b
import Derived.IntWalk
namespace Go.Proofs.YtcfdadgijnmemaaDoor
open Go.RowKit
set_option linter.unusedVariables false
set_option linter.unusedSimpArgs false

theorem u8_nat (b : Nat) (hb : b < 256) : (UInt8.ofNat b).toNat = b := by
  rw [UInt8.toNat_ofNat']; omega
theorem bhasp (p : Nat → Bool) (b : Nat) (hb : b < 256) (w : World) :
    Calls Tryd.prog 25 #[Value.agg #[.int .u64 (setW p 0 : Int), .int .u64 (setW p 1 : Int), .int .u64 (setW p 2 : Int), .int .u64 (setW p 3 : Int)], .int .u8 (b : Int)] w fun e w' => e = .returned (.bool (p b)) ∧ Below w.heap.size w w' := by
  have h := bhas (setW p) (UInt8.ofNat b) w (setW_lt p)
  have e : hasS (setW p) (UInt8.ofNat b) = p b := by
    have := bit_setW p b
    unfold bitS at this
    rw [← this]
    unfold hasS
    rw [u8_nat b hb]
  rw [e, u8_nat b hb] at h
  exact h
theorem rhasp (p : Nat → Bool) (b : Nat) (hb : b < 256) (w : World) :
    Calls Tryd.prog 26 #[Value.agg #[.int .u64 (setW p 0 : Int), .int .u64 (setW p 1 : Int), .int .u64 (setW p 2 : Int), .int .u64 (setW p 3 : Int)], .int .u8 (b : Int)] w fun e w' => e = .returned (.bool (p b)) ∧ Below w.heap.size w w' := by
  have h := rhas (setW p) (UInt8.ofNat b) w (setW_lt p)
  have e : hasS (setW p) (UInt8.ofNat b) = p b := by
    have := bit_setW p b
    unfold bitS at this
    rw [← this]
    unfold hasS
    rw [u8_nat b hb]
  rw [e, u8_nat b hb] at h
  exact h

theorem and_i64 (x : Nat) (hx : x < 9223372036854775808) : bits .and .i64 (wrap64 (x : Int)) 127 = ((x % 128 : Nat) : Int) := by
  have e : wrap64 (x : Int) = x := by unfold wrap64; omega
  rw [e]
  have h1 : (BitVec.ofInt 64 (x : Int)).toNat = x := by
    rw [BitVec.ofInt_natCast, BitVec.toNat_ofNat]; exact Nat.mod_eq_of_lt (by omega)
  have h2 : (BitVec.ofInt 64 (127 : Int)).toNat = 127 := by decide
  show IntKind.i64.wrap ((BitVec.ofInt 64 (x : Int) &&& BitVec.ofInt 64 (127 : Int)).toNat : Int) = _
  rw [BitVec.toNat_and, h1, h2, show (127 : Nat) = 2 ^ 7 - 1 from rfl, Nat.and_two_pow_sub_one_eq_mod]
  rw [IntWalk.i64_in _ (by omega)]
theorem w64 (x : Nat) (hx : x < 18446744073709551616) : IntKind.u64.wrap (x : Int) = x := by rw [IntKind.wrap_u64]; omega
theorem swar_int (x : Nat) (hx : x < 18446744073709551616) (F : Int → Int) (hF : ∀ f : Nat, f % 128 = popN x 64 → f < 9223372036854775808 → F f = (popN x 64 : Int)) (a b c d e f : Int)
    (ha : a = IntKind.u64.wrap (bits .and .u64 ((x : Int) / 2) 6148914691236517205 + bits .and .u64 (x : Int) 6148914691236517205))
    (hb : b = IntKind.u64.wrap (bits .and .u64 (a / 4) 3689348814741910323 + bits .and .u64 a 3689348814741910323))
    (hc : c = bits .and .u64 (IntKind.u64.wrap (b / 16 + b)) 1085102592571150095) (hd : d = IntKind.u64.wrap (c + c / 256)) (he : e = IntKind.u64.wrap (d + d / 65536)) (hf : f = IntKind.u64.wrap (e + e / 4294967296)) : F f = (popN x 64 : Int) := by
  obtain ⟨na, ea⟩ : ∃ na : Nat, na = (x / 2 &&& 6148914691236517205) + (x &&& 6148914691236517205) := ⟨_, rfl⟩
  obtain ⟨nb, eb⟩ : ∃ nb : Nat, nb = (na / 4 &&& 3689348814741910323) + (na &&& 3689348814741910323) := ⟨_, rfl⟩
  obtain ⟨nc, ec⟩ : ∃ nc : Nat, nc = (nb / 16 + nb) &&& 1085102592571150095 := ⟨_, rfl⟩
  obtain ⟨nd, ed⟩ : ∃ nd : Nat, nd = nc + nc / 256 := ⟨_, rfl⟩
  obtain ⟨ne, ee⟩ : ∃ ne : Nat, ne = nd + nd / 65536 := ⟨_, rfl⟩
  obtain ⟨nf, ef⟩ : ∃ nf : Nat, nf = ne + ne / 4294967296 := ⟨_, rfl⟩
  obtain ⟨r, la, lb, lc, ld, le, lf⟩ := swar x hx na nb nc nd ne nf ea eb ec ed ee ef
  have m1 : (6148914691236517205 : Int) = ((6148914691236517205 : Nat) : Int) := rfl
  have m2 : (3689348814741910323 : Int) = ((3689348814741910323 : Nat) : Int) := rfl
  have m3 : (1085102592571150095 : Int) = ((1085102592571150095 : Nat) : Int) := rfl
  have xa : a = (na : Int) := by
    rw [ha, show (x : Int) / 2 = ((x / 2 : Nat) : Int) by omega, m1, u64_and_nat _ _ (by omega) (by decide), u64_and_nat _ _ hx (by decide), ← Int.natCast_add, ← ea]
    exact w64 _ la
  have xb : b = (nb : Int) := by
    rw [hb, xa, show (na : Int) / 4 = ((na / 4 : Nat) : Int) by omega, m2, u64_and_nat _ _ (by omega) (by decide), u64_and_nat _ _ la (by decide), ← Int.natCast_add, ← eb]
    exact w64 _ (by omega)
  have xc : c = (nc : Int) := by
    have lz : nb / 16 + nb < 18446744073709551616 := by omega
    rw [hc, xb, show (nb : Int) / 16 + nb = ((nb / 16 + nb : Nat) : Int) by omega, w64 _ lz, m3, u64_and_nat _ _ lz (by decide), ← ec]
  have xd : d = (nd : Int) := by
    rw [hd, xc, show (nc : Int) + (nc : Int) / 256 = ((nc + nc / 256 : Nat) : Int) by omega, ← ed]
    exact w64 _ (by omega)
  have xe : e = (ne : Int) := by
    rw [he, xd, show (nd : Int) + (nd : Int) / 65536 = ((nd + nd / 65536 : Nat) : Int) by omega, ← ee]
    exact w64 _ (by omega)
  have xf : f = (nf : Int) := by
    rw [hf, xe, show (ne : Int) + (ne : Int) / 4294967296 = ((ne + ne / 4294967296 : Nat) : Int) by omega, ← ef]
    exact w64 _ (by omega)
  rw [xf]
  exact hF nf r lf

set_option maxRecDepth 100000 in
set_option maxHeartbeats 1000000 in
theorem ones64 (x : Nat) (hx : x < 18446744073709551616) (w : World) :
    Calls Tryd.prog 48 #[.int .u64 (x : Int)] w fun e w' => e = .returned (.int .i64 (popN x 64 : Int)) ∧ w = w' := by
  have hx1 : (x : Int) < 18446744073709551616 := by omega
  have hx0 : 0 ≤ (x : Int) := by omega
  go_enter Tryd.func48, Tryd.ntmps48
  go_wp2
  go_ret
  refine ⟨ret_int ?_, rfl⟩
  exact swar_int x hx (fun f => bits .and .i64 (wrap64 f) 127) (fun f hf hl => by rw [and_i64 f hl, hf]) _ _ _ _ _ _ rfl rfl rfl rfl rfl rfl

/-- Letters. -/
def letP (b : Nat) : Bool := (decide (97 ≤ b) && decide (b ≤ 122)) || (decide (65 ≤ b) && decide (b ≤ 90))
set_option maxRecDepth 100000 in
set_option maxHeartbeats 1000000 in
theorem bletter (b : Nat) (hb : b < 256) (w : World) :
    Calls Tryd.prog 47 #[.int .u8 (b : Int)] w fun e w' => e = .returned (.bool (letP b)) ∧ w = w' := by
  have hb1 : (b : Int) < 256 := by omega
  have hb0 : 0 ≤ (b : Int) := by omega
  go_enter Tryd.func47, Tryd.ntmps47
  go_wp2
  all_goals
    go_ret
    refine ⟨ret_bool ?_, rfl⟩
    unfold letP
    rw [Bool.eq_iff_iff]
    simp
    omega

/-- The library's table, as it is laid. -/
def TabOk (w : World) : Prop := ∀ j, j < Lib.deBruijn64tab.length → w.cell? ⟨0, j, none⟩ = some (.int .u8 (Lib.deBruijn64tab.getD j 0))
theorem TabOk.below {w w' : World} {B : Nat} (h : TabOk w) (hb : Below B w w') (hB : 0 < B) : TabOk w' := fun j hj => by
  rw [hb.cell (p := ⟨0, j, none⟩) hB]
  exact h j hj
theorem tz_key (x a : Nat) (hx : x < 18446744073709551616) (hx0 : x ≠ 0) (hlow : x &&& (18446744073709551616 - x) = a) :
    IntKind.u64.wrap (bits BinOp.and IntKind.u64 (x : Int) (IntKind.u64.wrap (-(x : Int))) * 285870213051353865) / 288230376151711744 = ((a * 285870213051353865 % 18446744073709551616 / 288230376151711744 : Nat) : Int) := by
  have e1 : IntKind.u64.wrap (-(x : Int)) = ((18446744073709551616 - x : Nat) : Int) := by rw [IntKind.wrap_u64]; omega
  rw [e1, u64_and_nat x _ hx (by omega), hlow, IntKind.wrap_u64]
  omega
set_option maxRecDepth 100000 in
set_option maxHeartbeats 1000000 in
theorem tz_core (x k idx : Nat) (w : World) (hx0 : ((x : Int) == 0) = false)
    (key : IntKind.u64.wrap (bits BinOp.and IntKind.u64 (x : Int) (IntKind.u64.wrap (-(x : Int))) * 285870213051353865) / 288230376151711744 = (idx : Int))
    (hi : idx < 64) (hk : k < 64) (hcell : w.cell? ⟨0, idx, none⟩ = some (.int .u8 k)) :
    Calls Tryd.prog 54 #[.int .u64 (x : Int)] w fun e w' => e = .returned (.int .i64 (k : Int)) ∧ w = w' := by
  go_enter Tryd.func54, Tryd.ntmps54
  go_wp2_with (simp only [key])
  go_ret
  exact ⟨rfl, rfl⟩
theorem tz64 (x : Nat) (hx : x < 18446744073709551616) (hx0 : x ≠ 0) (w : World) (hT : TabOk w) :
    Calls Tryd.prog 54 #[.int .u64 (x : Int)] w fun e w' => e = .returned (.int .i64 (Lib.ctz 64 x : Int)) ∧ w = w' := by
  obtain ⟨hlow, hk⟩ := Lib.lowest_bit 64 x hx0 hx
  obtain ⟨hi, htab⟩ := Lib.deBruijn64_at _ hk
  have hcell := hT _ hi
  rw [htab] at hcell
  exact tz_core x _ _ w (by simp; omega) (tz_key x _ hx hx0 hlow) hi hk hcell

/-- How many numbers below n are in a set. -/
def cntP (p : Nat → Bool) : Nat → Nat
  | 0 => 0
  | n + 1 => cntP p n + (p n).toNat
theorem cntP_word (p : Nat → Bool) (i n : Nat) (hn : n ≤ 64) : cntP p (64 * i) + popN (setW p i) n = cntP p (64 * i + n) := by
  induction n with
  | zero => rfl
  | succ n ih =>
    have ih := ih (by omega)
    show _ + (popN (setW p i) n + _) = cntP p (64 * i + n) + _
    rw [setW_bit, decide_eq_true (by omega : n < 64), Bool.true_and]
    show _ + (_ + (p (64 * i + n)).toNat) = cntP p (64 * i + n) + (p (64 * i + n)).toNat
    omega
theorem idx_run (p : Nat → Bool) (k : Nat) (hk : k < 4) (w : World) : (Instr.index 28 (Value.agg #[.int .u64 (setW p 0 : Int), .int .u64 (setW p 1 : Int), .int .u64 (setW p 2 : Int), .int .u64 (setW p 3 : Int)]) (.int .i64 (k : Int))).run Tryd.prog w = .ok (.int .u64 (setW p k : Int)) w := by
  have h : k = 0 ∨ k = 1 ∨ k = 2 ∨ k = 3 := by omega
  rcases h with rfl | rfl | rfl | rfl
  · show (Instr.index 28 (Value.agg #[.int .u64 (setW p 0 : Int), .int .u64 (setW p 1 : Int), .int .u64 (setW p 2 : Int), .int .u64 (setW p 3 : Int)]) (.int .i64 0)).run Tryd.prog w = .ok (.int .u64 (setW p 0 : Int)) w
    kernel_rfl
  · show (Instr.index 28 (Value.agg #[.int .u64 (setW p 0 : Int), .int .u64 (setW p 1 : Int), .int .u64 (setW p 2 : Int), .int .u64 (setW p 3 : Int)]) (.int .i64 1)).run Tryd.prog w = .ok (.int .u64 (setW p 1 : Int)) w
    kernel_rfl
  · show (Instr.index 28 (Value.agg #[.int .u64 (setW p 0 : Int), .int .u64 (setW p 1 : Int), .int .u64 (setW p 2 : Int), .int .u64 (setW p 3 : Int)]) (.int .i64 2)).run Tryd.prog w = .ok (.int .u64 (setW p 2 : Int)) w
    kernel_rfl
  · show (Instr.index 28 (Value.agg #[.int .u64 (setW p 0 : Int), .int .u64 (setW p 1 : Int), .int .u64 (setW p 2 : Int), .int .u64 (setW p 3 : Int)]) (.int .i64 3)).run Tryd.prog w = .ok (.int .u64 (setW p 3 : Int)) w
    kernel_rfl
theorem cntP_le (p : Nat → Bool) (n : Nat) : cntP p n ≤ n := by
  induction n with
  | zero => exact Nat.le_refl _
  | succ n ih =>
    have : (p n).toNat ≤ 1 := by cases p n <;> simp
    show cntP p n + _ ≤ _
    omega

set_option maxRecDepth 100000 in
set_option maxHeartbeats 1000000 in
theorem bcount (p : Nat → Bool) (w : World) :
    Calls Tryd.prog 31 #[Value.agg #[.int .u64 (setW p 0 : Int), .int .u64 (setW p 1 : Int), .int .u64 (setW p 2 : Int), .int .u64 (setW p 3 : Int)]] w fun e w' => e = .returned (.int .i64 (cntP p 256 : Int)) ∧ Below w.heap.size w w' := by
  go_enter Tryd.func31, Tryd.ntmps31
  go_wp2_with (fail)
  go_loopw [3, 7] (fun n i wr => ∃ k : Nat, k ≤ 4 ∧ i = .int .i64 (k : Int) ∧ n = .int .i64 (cntP p (64 * k) : Int) ∧ Below w.heap.size w wr) (fun _ i _ => 4 - (intOf i).toNat)
  case atStart => exact ⟨0, by omega, rfl, rfl, (Below.refl _ _).alloc (Nat.le_refl _) _⟩
  case round =>
    obtain ⟨k, hk, rfl, rfl, hbel⟩ := hrel
    by_cases hlt : k < 4
    · have hg := setC_get p k hlt
      unfold setC at hg
      have hl := cntP_le p (64 * k)
      have hl1 := cntP_le p (64 * k + 64)
      have hs := Lib.hid (cntP_word p k 64 (Nat.le_refl _))
      have HB := Lib.hid hbel
      have hpl : popN (setW p k) 64 ≤ 256 := by have := hs.out; omega
      clear hbel
      have hix := idx_run p k hlt
      go_wp2_with (fail)
      refine (ones64 _ (u64_bound p k) _).mono ?_
      rintro e w' ⟨rfl, rfl⟩
      go_wp2
      refine ⟨⟨k + 1, by omega, by go_num, ?_, HB.out⟩, by simp [intOf]; omega⟩
      rw [show 64 * (k + 1) = 64 * k + 64 by omega, ← hs.out]
      go_num
    · obtain rfl : k = 4 := by omega
      have HB := Lib.hid hbel
      clear hbel
      go_wp2
      go_ret
      exact ⟨rfl, HB.out⟩
end Go.Proofs.YtcfdadgijnmemaaDoor
