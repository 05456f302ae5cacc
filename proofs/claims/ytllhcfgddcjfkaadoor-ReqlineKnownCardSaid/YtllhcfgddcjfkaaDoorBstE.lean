/-
  byteset.All, as the plain function says; condition: none.
-/
import Derived.Test.YtllhcfgddcjfkaaDoorBstC
import Derived.Test.YtllhcfgddcjfkaaDoorBstD
import Derived.Test.YtllhcfgddcjfkaaDoorSetEq
import Derived.Deep.RegionHeld3
namespace Go.Proofs.YtllhcfgddcjfkaaDoor
open Go.RowKit
set_option linter.unusedVariables false
set_option linter.unusedSimpArgs false
/-- Whether all bytes of a string are in a set. -/
def allS (p : Nat → Bool) (s : ByteArray) : Bool := s.data.toList.all fun c => p c.toNat
theorem allS_eq (p : Nat → Bool) (s : ByteArray) : eqP (andP p (ofS s)) (ofS s) = allS p s := by
  rw [Bool.eq_iff_iff, eqP_iff]
  unfold allS
  rw [List.all_eq_true]
  constructor
  · intro h x hx
    have h1 : ofS s x.toNat = true := (ofS_mem s _).2 ⟨x, hx, rfl⟩
    have := h x.toNat x.toNat_lt
    unfold andP at this
    rw [h1, Bool.and_true] at this
    exact this
  · intro h c hc
    unfold andP
    cases ho : ofS s c
    · simp
    · obtain ⟨x, hx, rfl⟩ := (ofS_mem s c).1 ho
      rw [h x hx]; rfl
set_option maxRecDepth 100000 in
set_option maxHeartbeats 2000000 in
theorem ball (p : Nat → Bool) (s : ByteArray) (hs : s.size ≤ 1000000000) (w : World) :
    Calls Tryd.prog 40 #[Value.agg #[.int .u64 (setW p 0 : Int), .int .u64 (setW p 1 : Int), .int .u64 (setW p 2 : Int), .int .u64 (setW p 3 : Int)], .string s] w fun e w' => e = .returned (.bool (allS p s)) ∧ Below w.heap.size w w' := by
  have hcv := fun W => Lib.run_convert_string_bytes (P := Tryd.prog) W 9 56 5 s Tryd.underlying9 Tryd.underlying56 Tryd.underlying5
  have heq := eqSet (andP p (ofS s)) (ofS s)
  have hbk := Blk.new w 64 #[Value.int .u64 (setW p 0 : Int), .int .u64 (setW p 1 : Int), .int .u64 (setW p 2 : Int), .int .u64 (setW p 3 : Int)]
  have HBK := Lib.hid hbk
  clear hbk
  go_enter Tryd.func40, Tryd.ntmps40
  go_wp2_with (fail)
  refine (bof_str s (by omega) _ _ _ (by simp)).mono ?_
  rintro e W1 ⟨rfl, hb1⟩
  obtain ⟨W2, hW2⟩ : ∃ X, X = W1.alloc (.cells #[Value.int .u64 (setW (ofS s) 0 : Int), .int .u64 (setW (ofS s) 1 : Int), .int .u64 (setW (ofS s) 2 : Int), .int .u64 (setW (ofS s) 3 : Int)] 64) := ⟨_, rfl⟩
  have hB := gr_alloc (gr_call (gr_call (gr_alloc (Below.refl w.heap.size w) (.cells #[Value.int .u64 (setW p 0 : Int), .int .u64 (setW p 1 : Int), .int .u64 (setW p 2 : Int), .int .u64 (setW p 3 : Int)] 64)) (below_bytesWorld _ 5 s)) hb1) (.cells #[Value.int .u64 (setW (ofS s) 0 : Int), .int .u64 (setW (ofS s) 1 : Int), .int .u64 (setW (ofS s) 2 : Int), .int .u64 (setW (ofS s) 3 : Int)] 64)
  have h0 := ((HBK.out.call (below_bytesWorld _ 5 s)).call hb1).alloc (.cells #[Value.int .u64 (setW (ofS s) 0 : Int), .int .u64 (setW (ofS s) 1 : Int), .int .u64 (setW (ofS s) 2 : Int), .int .u64 (setW (ofS s) 3 : Int)] 64)
  have h1 := Blk.new W1 64 #[Value.int .u64 (setW (ofS s) 0 : Int), .int .u64 (setW (ofS s) 1 : Int), .int .u64 (setW (ofS s) 2 : Int), .int .u64 (setW (ofS s) 3 : Int)]
  rw [← hW2] at h0 h1 hB
  obtain ⟨X, hX⟩ : ∃ X, X = W1.heap.size := ⟨_, rfl⟩
  rw [← hX] at h1
  have a0 := h0.cell' (i := 0) rfl
  have a1 := h0.cell' (i := 1) rfl
  have a2 := h0.cell' (i := 2) rfl
  have a3 := h0.cell' (i := 3) rfl
  have b0 := h1.cell' (i := 0) rfl
  have b1 := h1.cell' (i := 1) rfl
  have b2 := h1.cell' (i := 2) rfl
  have b3 := h1.cell' (i := 3) rfl
  have z0 := h0.lt
  have z1 := h1.lt
  have HB := Lib.hid (And.intro h0 (And.intro h1 (And.intro hB (And.intro hW2 hX))))
  clear hB h0 h1 hb1 hW2 hX
  go_wp2_with (fail)
  rw [← HB.out.2.2.2.1, ← HB.out.2.2.2.2]
  go_region_held3 (fun w' => w'.cell? ⟨w.heap.size, 0, none⟩ = some (.int .u64 (setW p 0 : Int)) ∧ w'.cell? ⟨w.heap.size, 1, none⟩ = some (.int .u64 (setW p 1 : Int)) ∧ w'.cell? ⟨w.heap.size, 2, none⟩ = some (.int .u64 (setW p 2 : Int)) ∧ w'.cell? ⟨w.heap.size, 3, none⟩ = some (.int .u64 (setW p 3 : Int)) ∧ w'.cell? ⟨X, 0, none⟩ = some (.int .u64 (setW (ofS s) 0 : Int)) ∧ w'.cell? ⟨X, 1, none⟩ = some (.int .u64 (setW (ofS s) 1 : Int)) ∧ w'.cell? ⟨X, 2, none⟩ = some (.int .u64 (setW (ofS s) 2 : Int)) ∧ w'.cell? ⟨X, 3, none⟩ = some (.int .u64 (setW (ofS s) 3 : Int)))
    (first
      | go_keep
      | (go_split_ands
         refine ⟨?_, ?_, ?_, ?_, ?_, ?_, ?_, ?_⟩ <;> (rw [hb.cell (by first | omega | (simp; done) | (simp; omega))]; assumption)))
    (first
      | (go_at_call 48; refine (bcommon2 _ _ _ _ _ 64 (by first | exact (Blk.new _ _ _).drew | exact Blk.new _ _ _)).mono ?_; rintro e W ⟨rfl, hb⟩; have HB2 : Below W2.heap.size W2 W := (by refine gr_call ?_ hb; repeat (first | exact Below.refl _ _ | refine gr_drew ?_ | refine gr_alloc ?_ _))))
  go_wp2_with (fail)
  go_ret
  refine ⟨ret_bool ?_, gr_call HB.out.2.2.1 HB2⟩
  exact allS_eq p s
end Go.Proofs.YtllhcfgddcjfkaaDoor
