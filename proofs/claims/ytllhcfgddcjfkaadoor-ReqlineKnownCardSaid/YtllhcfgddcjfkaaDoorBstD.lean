/-
  A string's bytes as a set: byteset.Of; condition: none.
-/
import Derived.Test.YtllhcfgddcjfkaaDoorBstB
import Derived.Lib.ConvBytes
namespace Go.Proofs.YtllhcfgddcjfkaaDoor
open Go.RowKit
set_option linter.unusedVariables false
set_option linter.unusedSimpArgs false


theorem below_bytesWorld (w : World) (e : TypeId) (s : ByteArray) : Below w.heap.size w (Lib.bytesWorld w e s) :=
  ⟨by simp [Lib.bytesWorld, World.freeze, World.alloc, World.drew, -World.alloc_eq, -World.drew_eq], by simp [Lib.bytesWorld, World.freeze, World.alloc, World.drew, -World.alloc_eq, -World.drew_eq], by simp [Lib.bytesWorld, World.freeze, World.alloc, World.drew, -World.alloc_eq, -World.drew_eq], by rw [Lib.bytesWorld_size]; omega, fun j hj => Lib.bytesWorld_at_old w e s j hj⟩
/-- The bytes of a string. -/
def byS (s : ByteArray) : Nat → Nat := fun i => (s.data.toList.getD i 0).toNat
/-- The set of a string's bytes. -/
def ofS (s : ByteArray) : Nat → Bool := ofP (byS s) s.size
theorem bytes_cells (w : World) (s : ByteArray) : Cells (Lib.bytesWorld w 5 s) (some ⟨w.heap.size, 0, none⟩) 1 s.size (byteAt (byS s)) :=
  fun _ => ⟨_, _, rfl, by rw [Lib.bytesWorld_size]; omega, fun i j hi hj => by
    obtain rfl : j = 0 := by omega
    rw [Nat.zero_add, Nat.mul_one, Nat.add_zero]
    exact Lib.bytesWorld_cell w 5 s i hi⟩
theorem byS_lt (s : ByteArray) (i : Nat) : byS s i < 256 := (s.data.toList.getD i 0).toNat_lt
theorem bof_str (s : ByteArray) (hs : s.size ≤ 140737488355328) (n cap : Nat) (W : World) (hn : n = W.heap.size) :
    Calls Tryd.prog 47 #[.slice (some ⟨n, 0, none⟩) s.size cap] (Lib.bytesWorld W 5 s) fun e w' => e = .returned (Value.agg #[.int .u64 (setW (ofS s) 0 : Int), .int .u64 (setW (ofS s) 1 : Int), .int .u64 (setW (ofS s) 2 : Int), .int .u64 (setW (ofS s) 3 : Int)]) ∧ Below (Lib.bytesWorld W 5 s).heap.size (Lib.bytesWorld W 5 s) w' := by
  subst hn
  exact bof _ _ _ (byS s) (byS_lt s) hs _ (bytes_cells W s)
theorem ofP_mem (Z : Nat → Nat) (n c : Nat) : ofP Z n c = true ↔ ∃ i, i < n ∧ Z i = c := by
  induction n with
  | zero => simp [ofP, noP]
  | succ n ih =>
    unfold ofP insP
    rw [Bool.or_eq_true, decide_eq_true_eq, ih]
    constructor
    · rintro (rfl | ⟨i, hi, rfl⟩)
      · exact ⟨n, by omega, rfl⟩
      · exact ⟨i, by omega, rfl⟩
    · rintro ⟨i, hi, rfl⟩
      by_cases e : i = n
      · left; rw [e]
      · right; exact ⟨i, by omega, rfl⟩
theorem ofS_mem (s : ByteArray) (c : Nat) : ofS s c = true ↔ ∃ x ∈ s.data.toList, x.toNat = c := by
  unfold ofS
  rw [ofP_mem]
  constructor
  · rintro ⟨i, hi, rfl⟩
    refine ⟨s.data.toList[i]'(by rw [size_data]; exact hi), List.getElem_mem _, ?_⟩
    unfold byS
    rw [List.getD_eq_getElem?_getD, List.getElem?_eq_getElem (by rw [size_data]; exact hi)]; rfl
  · rintro ⟨x, hx, rfl⟩
    obtain ⟨i, hi, rfl⟩ := List.getElem_of_mem hx
    refine ⟨i, by rw [← size_data]; exact hi, ?_⟩
    unfold byS
    rw [List.getD_eq_getElem?_getD, List.getElem?_eq_getElem hi]; rfl
end Go.Proofs.YtllhcfgddcjfkaaDoor
