/-
  The statements of percent: the set of the chapter's examples, and what the examples say; condition: none.
-/
import Derived.Test.YtgbnppdcolednaaPctRefD
namespace Go.Proofs.Ytgbnppdcolednaa
open Go.RowKit
set_option linter.unusedVariables false
set_option linter.unusedSimpArgs false

def LetRel (w0 : World) (n : Nat) (cv : Value) (wr : World) : Prop :=
  ∃ k : Nat, n = 26 - k ∧ k ≤ 26 ∧ cv = .int .i32 (97 + (k : Int)) ∧ Blk wr (w0.heap.size + 1) 31 #[.int .u64 0, .int .u64 ((2 ^ (33 + k) - 2 ^ 33 : Nat) : Int), .int .u64 0, .int .u64 0] ∧
    Blk wr w0.heap.size 31 #[.int .u64 0, .int .u64 0, .int .u64 0, .int .u64 0] ∧ Below w0.heap.size w0 wr

theorem let_word : ∀ k : Nat, k < 26 → bits .or .u64 (((2 ^ (33 + k) - 8589934592 : Nat) : Int)) (IntKind.u64.wrap (2 ^ (33 + k))) = ((2 ^ (33 + (k + 1)) - 2 ^ 33 : Nat) : Int) := by
  decide +kernel

set_option maxRecDepth 100000 in
set_option maxHeartbeats 1000000 in
theorem letters (w : World) :
    Calls Try.prog 27 #[] w fun e w' => e = .returned (.agg #[.int .u64 140874927308800, .int .u64 576460743713488896, .int .u64 0, .int .u64 0]) ∧ Below w.heap.size w w' := by
  go_enter Try.func27, Try.ntmps27
  go_wp2_with (fail)
  go_loopg [2] 26 (fun n cv wr => LetRel w n cv wr)
  case atStart =>
    have hz : (w.alloc (.cells #[.int .u64 0, .int .u64 0, .int .u64 0, .int .u64 0] 31)).heap.size = w.heap.size + 1 := World.size_alloc _ _
    refine ⟨0, rfl, Nat.zero_le _, by simp, ?_, (Blk.new _ _ _).alloc _, ((Below.refl _ _).alloc (Nat.le_refl _) _).alloc (by omega) _⟩
    have := Blk.new (w.alloc (.cells #[.int .u64 0, .int .u64 0, .int .u64 0, .int .u64 0] 31)) 31 #[.int .u64 0, .int .u64 0, .int .u64 0, .int .u64 0]
    rw [hz] at this
    exact this
  case round =>
    obtain ⟨k, hn, hk, rfl, hb1, hb0, hbel⟩ := hrel
    have hz := hb1.lt
    have c0 := hb1.cell' (i := 0) (v := .int .u64 0) rfl
    have c1 := hb1.cell' (i := 1) (v := .int .u64 ((2 ^ (33 + k) - 2 ^ 33 : Nat) : Int)) rfl
    have f1 := hb1.frozen 1
    by_cases hlt : k < 26
    · have q1 : (97 + (k : Int)) / 64 = 1 := by omega
      have q2 : (97 + (k : Int)) % 64 = 33 + k := by omega
      have H := Lib.hid (And.intro hn (And.intro hb1 (And.intro hb0 hbel)))
      clear hn hb1 hb0 hbel
      go_wp2_with (fail)
      go_roundg (26 - (k + 1))
      case measure => have := H.out.1; omega
      case rel =>
        obtain ⟨hn, hb1, hb0, hbel⟩ := H.out
        refine ⟨k + 1, rfl, hlt, by simp; omega, ?_, hb0.far (by simp) _, hbel.setCell (by simp) _⟩
        rw [let_word k hlt]
        exact hb1.set_ 1 _
    · have hk26 : k = 26 := by omega
      subst hk26
      have c0' := hb1.cell' (i := 2) (v := .int .u64 0) rfl
      have c3 := hb1.cell' (i := 3) (v := .int .u64 0) rfl
      have f0 := hb1.frozen 0
      have d0 := hb0.cell' (i := 0) (v := .int .u64 0) rfl
      have d1 := hb0.cell' (i := 1) (v := .int .u64 0) rfl
      have d2 := hb0.cell' (i := 2) (v := .int .u64 0) rfl
      have d3 := hb0.cell' (i := 3) (v := .int .u64 0) rfl
      have g0 := hb0.frozen 0
      have g1 := hb0.frozen 1
      have g2 := hb0.frozen 2
      have g3 := hb0.frozen 3
      have hz0 := hb0.lt
      have H := Lib.hid hbel
      clear hn hb1 hb0 hbel
      go_wp2_with (fail)
      refine bodyPost_ret (v := .agg #[.int .u64 140874927308800, .int .u64 576460743713488896, .int .u64 0, .int .u64 0]) ?_ rfl ⟨rfl, ((((((H.out.setCell (by simp) _).setCell (by simp) _).setCell (by simp) _).setCell (by simp) _).setCell (by simp) _).setCell (by simp) _)⟩
      have e : bits BinOp.or IntKind.u64 (bits BinOp.or IntKind.u64 0 140737488355328) 137438953472 = 140874927308800 := by decide
      simp [results, Try.results27, go_sem, d0, d1, d2, d3, hz0, e]

def letS : Nat → Nat
  | 0 => 140874927308800
  | 1 => 576460743713488896
  | _ => 0
theorem letS_lt : ∀ k, letS k < 2 ^ 64
  | 0 => by decide
  | 1 => by decide
  | _ + 2 => by show (0 : Nat) < _; decide

set_option maxRecDepth 100000 in
set_option maxHeartbeats 1000000 in
theorem psays (s t : ByteArray) (w : World) (hs : s.size ≤ 1000000000) :
    Calls Try.prog 28 #[.string s, .string t] w fun e w' => e = .returned (.bool (decide (okS s) && decide (rOut s = t))) ∧ Below w.heap.size w w' := by
  by_cases ho : okS s
  · obtain ⟨e1, e2, e3, e4⟩ := rOk ho
    have HO := Lib.hid ho
    clear e3 e4 ho
    go_enter Try.func28, Try.ntmps28
    go_wp2_with (go_at_call 15; refine (pdecode s _ hs).mono ?_; rintro e w1 ⟨rfl, hbel⟩)
    go_ret
    exact ⟨ret_bool (by rw [str_beq]; simp [HO.out]), gr_alloc hbel _⟩
  · obtain ⟨e1, e2, e3, e4⟩ := rNo ho
    have HO := Lib.hid ho
    clear e2 e3 e4 ho
    go_enter Try.func28, Try.ntmps28
    go_wp2_with (go_at_call 15; refine (pdecode s _ hs).mono ?_; rintro e w1 ⟨rfl, hbel⟩)
    go_ret
    exact ⟨ret_bool (by simp [HO.out]), gr_alloc hbel _⟩
end Go.Proofs.Ytgbnppdcolednaa
