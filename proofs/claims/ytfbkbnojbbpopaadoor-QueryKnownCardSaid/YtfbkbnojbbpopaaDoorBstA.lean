/-
  byteset.Of, as the plain functions say; condition: each list lies in memory.
-/
import Derived.Test.YtfbkbnojbbpopaaDoorSetFn
import Derived.Test.YtfbkbnojbbpopaaDoorRow
import Derived.Test.YtfbkbnojbbpopaaDoorProg
import Derived.Laws.BitsAllLaws
import Derived.WalkSpells
import Derived.WalkLawsBesides
import Derived.Deep.LoopGhost
import Derived.RegionTactic
import Derived.StillTailTactics
import Derived.Deep.DeepCutAuto
import Derived.Outline
namespace Go.Proofs.YtfbkbnojbbpopaaDoor
open Go.RowKit
set_option linter.unusedVariables false
set_option linter.unusedSimpArgs false
theorem or_word (x y : Nat) (hx : x < 18446744073709551616) (hy : y < 18446744073709551616) : bits .or .u64 (x : Int) (y : Int) = ((x ||| y : Nat) : Int) := by
  have h : x ||| y < 2 ^ 64 := Nat.or_lt_two_pow (by omega) (by omega)
  have h1 : (BitVec.ofInt 64 (x : Int)).toNat = x := by
    rw [BitVec.ofInt_natCast, BitVec.toNat_ofNat]; exact Nat.mod_eq_of_lt (by omega)
  have h2 : (BitVec.ofInt 64 (y : Int)).toNat = y := by
    rw [BitVec.ofInt_natCast, BitVec.toNat_ofNat]; exact Nat.mod_eq_of_lt (by omega)
  show IntKind.u64.wrap ((BitVec.ofInt 64 (x : Int) ||| BitVec.ofInt 64 (y : Int)).toNat : Int) = _
  rw [BitVec.toNat_or, h1, h2, IntKind.wrap_u64]
  omega
theorem ins_list (p : Nat → Bool) (b : Nat) (hb : b < 256) : ([Value.int .u64 (setW p 0 : Int), .int .u64 (setW p 1 : Int), .int .u64 (setW p 2 : Int), .int .u64 (setW p 3 : Int)].set (b / 64) (.int .u64 (bits .or .u64 (setW p (b / 64) : Int) (IntKind.u64.wrap (2 ^ (b % 64)))))) = [Value.int .u64 (setW (insP p b) 0 : Int), .int .u64 (setW (insP p b) 1 : Int), .int .u64 (setW (insP p b) 2 : Int), .int .u64 (setW (insP p b) 3 : Int)] := by
  have hy : 2 ^ (b % 64) < 2 ^ 64 := Nat.pow_lt_pow_right (by decide) (by omega)
  have hx := setW_lt p (b / 64)
  have e : IntKind.u64.wrap (2 ^ (b % 64)) = ((2 ^ (b % 64) : Nat) : Int) := by
    have e2 : ((2 : Int) ^ (b % 64)) = ((2 ^ (b % 64) : Nat) : Int) := by simp
    rw [IntKind.wrap_u64, e2]
    generalize 2 ^ (b % 64) = y at hy
    omega
  rw [e, or_word _ _ (by omega) (by omega)]
  have := congrArg Array.toList (setC_ins p b hb)
  simpa [setC] using this
/-- The cells of bytes. -/
def byteAt (Z : Nat → Nat) : Nat → Nat → Value := fun i _ => .int .u8 (Z i : Int)
/-- A call's set and its result, in the call's first two blocks. -/
def SetAt (w : World) (q : Nat → Bool) (wr : World) : Prop :=
  Blk wr (w.heap.size + 1) 34 #[Value.int .u64 (setW q 0 : Int), .int .u64 (setW q 1 : Int), .int .u64 (setW q 2 : Int), .int .u64 (setW q 3 : Int)] ∧ Blk wr w.heap.size 34 #[.int .u64 0, .int .u64 0, .int .u64 0, .int .u64 0] ∧ Below w.heap.size w wr
theorem SetAt.facts {w wr : World} {q : Nat → Bool} (h : SetAt w q wr) : wr.cell? ⟨w.heap.size + 1, 0, none⟩ = some (.int .u64 (setW q 0 : Int)) ∧ wr.cell? ⟨w.heap.size + 1, 1, none⟩ = some (.int .u64 (setW q 1 : Int)) ∧ wr.cell? ⟨w.heap.size + 1, 2, none⟩ = some (.int .u64 (setW q 2 : Int)) ∧ wr.cell? ⟨w.heap.size + 1, 3, none⟩ = some (.int .u64 (setW q 3 : Int)) ∧
    wr.frozen? ⟨w.heap.size + 1, 0, none⟩ = false ∧ wr.frozen? ⟨w.heap.size + 1, 1, none⟩ = false ∧ wr.frozen? ⟨w.heap.size + 1, 2, none⟩ = false ∧ wr.frozen? ⟨w.heap.size + 1, 3, none⟩ = false :=
  ⟨h.1.cell' (i := 0) rfl, h.1.cell' (i := 1) rfl, h.1.cell' (i := 2) rfl, h.1.cell' (i := 3) rfl, h.1.frozen 0, h.1.frozen 1, h.1.frozen 2, h.1.frozen 3⟩
theorem SetAt.start (w : World) : SetAt w noP ((w.alloc (.cells #[.int .u64 0, .int .u64 0, .int .u64 0, .int .u64 0] 34)).alloc (.cells #[.int .u64 0, .int .u64 0, .int .u64 0, .int .u64 0] 34)) := by
  refine ⟨?_, (Blk.new _ _ _).alloc _, ((Below.refl _ _).alloc (Nat.le_refl _) _).alloc (by simp) _⟩
  have := setC_no
  unfold setC at this
  rw [this]
  simpa using Blk.new (w.alloc (.cells #[.int .u64 0, .int .u64 0, .int .u64 0, .int .u64 0] 34)) 34 #[.int .u64 0, .int .u64 0, .int .u64 0, .int .u64 0]
theorem SetAt.set_ {w wr : World} {q q' : Nat → Bool} (h : SetAt w q wr) {i : Nat} {v : Value} (hs : (setC q).setIfInBounds i v = setC q') : SetAt w q' (wr.setCell ⟨w.heap.size + 1, i, none⟩ v) := by
  obtain ⟨h1, h2, h3⟩ := h
  refine ⟨?_, h2.far (by simp) _, h3.setCell (by simp) _⟩
  have := h1.set_ i v
  unfold setC at hs
  rwa [hs] at this
theorem SetAt.store {w wr : World} {q q' : Nat → Bool} (h : SetAt w q wr) : SetAt w q' ((((wr.setCell ⟨w.heap.size + 1, 0, none⟩ (.int .u64 (setW q' 0 : Int))).setCell ⟨w.heap.size + 1, 1, none⟩ (.int .u64 (setW q' 1 : Int))).setCell ⟨w.heap.size + 1, 2, none⟩ (.int .u64 (setW q' 2 : Int))).setCell ⟨w.heap.size + 1, 3, none⟩ (.int .u64 (setW q' 3 : Int))) := by
  obtain ⟨h1, h2, h3⟩ := h
  refine ⟨by simpa using (((h1.set_ 0 _).set_ 1 _).set_ 2 _).set_ 3 _, (((h2.far (by simp) _).far (by simp) _).far (by simp) _).far (by simp) _, gr_set (gr_set (gr_set (gr_set h3 (by simp) _) (by simp) _) (by simp) _) (by simp) _⟩
theorem SetAt.below {w wr wr' : World} {q : Nat → Bool} (h : SetAt w q wr) (hb : Below wr.heap.size wr wr') : SetAt w q wr' :=
  ⟨h.1.call hb, h.2.1.call hb, gr_call h.2.2 hb⟩
theorem SetAt.same {w wr : World} {q q' : Nat → Bool} (h : SetAt w q wr) (hs : setC q = setC q') : SetAt w q' wr := by
  unfold setC at hs
  unfold SetAt at *
  rwa [hs] at h
theorem SetAt.drew {w wr : World} {q : Nat → Bool} (h : SetAt w q wr) : SetAt w q wr.drew := ⟨h.1.drew, h.2.1.drew, gr_drew h.2.2⟩
theorem SetAt.drewN {w wr : World} {q : Nat → Bool} (h : SetAt w q wr) (n : Nat) : SetAt w q (wr.drewN n) := ⟨h.1.drewN n, h.2.1.drewN n, below_drewN h.2.2 n⟩
theorem SetAt.alloc {w wr : World} {q : Nat → Bool} (h : SetAt w q wr) (o : Obj) : SetAt w q (wr.alloc o) := ⟨h.1.alloc o, h.2.1.alloc o, gr_alloc h.2.2 o⟩
theorem setV_or (p : Nat → Bool) (b : Nat) (hb : b < 256) : (setC p).setIfInBounds (b / 64) (.int .u64 (bits .or .u64 (setW p (b / 64) : Int) (IntKind.u64.wrap (2 ^ (b % 64))))) = setC (insP p b) := by
  have := congrArg List.toArray (ins_list p b hb)
  simpa [setC] using this
set_option maxRecDepth 100000 in
set_option maxHeartbeats 1000000 in
theorem bof (A : Option Addr) (n cap : Nat) (Z : Nat → Nat) (hZ : ∀ i, Z i < 256) (hn : n ≤ 140737488355328) (w : World) (hA : Cells w A 1 n (byteAt Z)) :
    Calls Tryd.prog 56 #[.slice A n cap] w fun e w' => e = .returned (Value.agg #[.int .u64 (setW (ofP Z n) 0 : Int), .int .u64 (setW (ofP Z n) 1 : Int), .int .u64 (setW (ofP Z n) 2 : Int), .int .u64 (setW (ofP Z n) 3 : Int)]) ∧ Below w.heap.size w w' := by
  have hz := Lib.hid hZ
  have HA := Lib.hid hA
  clear hZ hA
  go_enter Tryd.func56, Tryd.ntmps56
  go_wp2_with (fail)
  go_loopw [8] (fun i wr => ∃ k : Nat, k ≤ n ∧ i = .int .i64 (k : Int) ∧ SetAt w (ofP Z k) wr) (fun i _ => n - (intOf i).toNat)
  case atStart => exact ⟨0, Nat.zero_le _, rfl, SetAt.start w⟩
  case round =>
    obtain ⟨k, hk, rfl, hat⟩ := hrel
    by_cases hlt : k < n
    · obtain ⟨ab, ao, rfl, had, hcl⟩ := (HA.out.below hat.2.2) (by omega)
      have hzk := hz.out k
      have hg := hat.1.cell' (i := Z k / 64) (setC_get (ofP Z k) (Z k / 64) (by omega))
      have hcell : wr.cell? ⟨ab, ao + k, none⟩ = some (.int .u8 (Z k : Int)) := by simpa [byteAt] using hcl k 0 hlt (by decide)
      clear hcl
      have hf := hat.1.frozen (Z k / 64)
      have HAT := Lib.hid hat
      clear hat
      go_wp2
      refine ⟨⟨k + 1, by omega, by go_num, HAT.out.set_ (setV_or _ _ hzk)⟩, by simp [intOf]; omega⟩
    · obtain rfl : k = n := by omega
      have a0 := hat.1.cell' (i := 0) rfl
      have a1 := hat.1.cell' (i := 1) rfl
      have a2 := hat.1.cell' (i := 2) rfl
      have a3 := hat.1.cell' (i := 3) rfl
      have b0 := hat.2.1.cell' (i := 0) rfl
      have b1 := hat.2.1.cell' (i := 1) rfl
      have b2 := hat.2.1.cell' (i := 2) rfl
      have b3 := hat.2.1.cell' (i := 3) rfl
      have f0 := hat.2.1.frozen 0
      have f1 := hat.2.1.frozen 1
      have f2 := hat.2.1.frozen 2
      have f3 := hat.2.1.frozen 3
      have HB := Lib.hid hat.2.2
      have hsz := hat.1.lt
      clear hat
      go_wp2
      refine bodyPost_ret (v := Value.agg #[.int .u64 (setW (ofP Z k) 0 : Int), .int .u64 (setW (ofP Z k) 1 : Int), .int .u64 (setW (ofP Z k) 2 : Int), .int .u64 (setW (ofP Z k) 3 : Int)]) (by simp [results, Tryd.results56, go_sem, b0, b1, b2, b3]) rfl ⟨rfl, ?_⟩
      exact gr_set (gr_set (gr_set (gr_set HB.out (by simp) _) (by simp) _) (by simp) _) (by simp) _
end Go.Proofs.YtfbkbnojbbpopaaDoor
