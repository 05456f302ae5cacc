/-
  The law's own helpers of chapter 01: parses, fails, and what a list of bytes is as a string; condition: the library's table lies as it is laid.
-/
import Derived.Test.YtcfdadgijnmemaaDoorSetU
import Derived.Test.YtcfdadgijnmemaaDoorSetV
namespace Go.Proofs.YtcfdadgijnmemaaDoor
open Go.RowKit
set_option linter.unusedVariables false
set_option linter.unusedSimpArgs false

/-- The bytes of a set, as a string. -/
def strP (p : Nat → Bool) : ByteArray := ⟨((lstP p 256).map fun x => UInt8.ofNat x.val).toArray⟩
theorem cellsF_bytes (L : List (Fin 256)) : cellsF L = Lib.byteCells (L.map fun x => UInt8.ofNat x.val) := by
  unfold cellsF Lib.byteCells
  rw [List.map_map]
  apply List.map_congr_left
  intro x _
  simp only [Function.comp]
  rw [u8_nat _ x.isLt]
theorem list_str {w W : World} {p : Nat → Bool} {v : Value} (h : W.ownsRow w.heap.size 5 1 v (lstP p 256).length (cellsF (lstP p 256))) : (convert 22 9 v).run Tryd.prog W = .ok (.string (strP p)) W := by
  rw [cellsF_bytes] at h
  exact run_own_string Tryd.underlying22 Tryd.underlying5 Tryd.underlying9 (by simp) h

set_option maxRecDepth 100000 in
set_option maxHeartbeats 1000000 in
theorem lfails (s : ByteArray) (w : World) :
    Calls Tryd.prog 38 #[.string s] w fun e w' => e = .returned (.int .i64 (parseP s).2) ∧ Below w.heap.size w w' := by
  go_enter Tryd.func38, Tryd.ntmps38
  go_wp2_with (fail)
  refine (bparse s _).mono ?_
  rintro e W1 ⟨rfl, hb1⟩
  have HB := Lib.hid hb1
  clear hb1
  go_wp2_with (fail)
  go_ret
  exact ⟨rfl, gr_alloc HB.out _⟩

/-- Whether a text is this set. -/
def parsesB (s : ByteArray) (p : Nat → Bool) : Bool := (parseP s).2 == 0 && eqP (parseP s).1 p

set_option maxRecDepth 100000 in
set_option maxHeartbeats 1000000 in
theorem lparses (s : ByteArray) (p : Nat → Bool) (w : World) :
    Calls Tryd.prog 39 #[.string s, Value.agg #[.int .u64 (setW p 0 : Int), .int .u64 (setW p 1 : Int), .int .u64 (setW p 2 : Int), .int .u64 (setW p 3 : Int)]] w fun e w' => e = .returned (.bool (parsesB s p)) ∧ Below w.heap.size w w' := by
  have hq := eqSet (parseP s).1 p
  have hbk := Blk.new w 28 #[Value.int .u64 (setW p 0 : Int), .int .u64 (setW p 1 : Int), .int .u64 (setW p 2 : Int), .int .u64 (setW p 3 : Int)]
  have HBK := Lib.hid hbk
  clear hbk
  cases h0 : (parseP s).2 == 0
  · have H0 := Lib.hid h0
    go_enter Tryd.func39, Tryd.ntmps39
    go_wp2_with (fail)
    refine (bparse s _).mono ?_
    rintro e W1 ⟨rfl, hb1⟩
    have HB := Lib.hid (gr_call (gr_alloc (Below.refl w.heap.size w) _) hb1)
    clear hb1
    go_wp2_with (fail)
    go_ret
    exact ⟨ret_bool (by unfold parsesB; rw [H0.out]; rfl), gr_alloc HB.out _⟩
  · have H0 := Lib.hid h0
    go_enter Tryd.func39, Tryd.ntmps39
    go_wp2_with (fail)
    refine (bparse s _).mono ?_
    rintro e W1 ⟨rfl, hb1⟩
    have hk := (HBK.out.call hb1)
    have a0 := hk.cell' (i := 0) rfl
    have a1 := hk.cell' (i := 1) rfl
    have a2 := hk.cell' (i := 2) rfl
    have a3 := hk.cell' (i := 3) rfl
    have hz := hk.lt
    have HB := Lib.hid (gr_call (gr_alloc (Below.refl w.heap.size w) _) hb1)
    clear hb1 hk
    go_wp2_with (fail)
    go_ret
    exact ⟨ret_bool (by unfold parsesB; rw [H0.out]; rfl), gr_alloc HB.out _⟩
end Go.Proofs.YtcfdadgijnmemaaDoor
