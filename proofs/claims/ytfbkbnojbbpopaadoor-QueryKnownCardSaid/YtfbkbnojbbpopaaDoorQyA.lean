/-
  query's set of bytes that stay, and whether a byte is in it, walked; no condition.
-/
import Derived.Test.YtfbkbnojbbpopaaDoorBstB
import Derived.Test.YtfbkbnojbbpopaaDoorSetHas
import Derived.Test.YtfbkbnojbbpopaaDoorQyFn
import Derived.Lib.SlBytesConst
namespace Go.Proofs.YtfbkbnojbbpopaaDoor
open Go.RowKit
set_option linter.unusedVariables false
set_option linter.unusedSimpArgs false

/-- The ranges of bytes that stay, and the other bytes. -/
def stL (i : Nat) : Nat := [97, 65, 48].getD i 0
def stH (i : Nat) : Nat := [122, 90, 57].getD i 0
def stO (i : Nat) : Nat := [45, 46, 95, 126, 47, 58, 64, 33, 42, 40, 41, 44, 36].getD i 0
theorem setV_st : Value.agg #[.int .u64 (setW (orP (rngP stL stH 3) (ofP stO 13)) 0 : Int), .int .u64 (setW (orP (rngP stL stH 3) (ofP stO 13)) 1 : Int), .int .u64 (setW (orP (rngP stL stH 3) (ofP stO 13)) 2 : Int), .int .u64 (setW (orP (rngP stL stH 3) (ofP stO 13)) 3 : Int)] = Value.agg #[.int .u64 (setW stP 0 : Int), .int .u64 (setW stP 1 : Int), .int .u64 (setW stP 2 : Int), .int .u64 (setW stP 3 : Int)] := by
  have h : ∀ c, c < 256 → orP (rngP stL stH 3) (ofP stO 13) c = stP c := by decide +kernel
  have := setC_ext h
  unfold setC at this
  rw [this]
theorem has_st (c : UInt8) : hasS (setW stP) c = stB c := by
  have := bit_setW stP c.toNat
  unfold bitS at this
  exact this
theorem getD_lt (l : List Nat) (h : ∀ x ∈ l, x < 256) (i : Nat) : l.getD i 0 < 256 := by
  rw [List.getD_eq_getElem?_getD]
  cases e : l[i]? with
  | none => decide
  | some x => exact h x (List.mem_of_getElem? e)
theorem st_cells (W : World) (n : Nat) (t : TypeId) (fr : Nat × Nat) (h : W.heap[n]? = some (.cells #[.int .u8 45, .int .u8 46, .int .u8 95, .int .u8 126, .int .u8 47, .int .u8 58, .int .u8 64, .int .u8 33, .int .u8 42, .int .u8 40, .int .u8 41, .int .u8 44, .int .u8 36] t fr)) : Cells W (some ⟨n, 0, none⟩) 1 13 (byteAt stO) := by
  intro _
  refine ⟨_, _, rfl, (Array.getElem?_eq_some_iff.1 h).1, fun i j hi hj => ?_⟩
  obtain rfl : j = 0 := by omega
  have hi' : i = 0 ∨ i = 1 ∨ i = 2 ∨ i = 3 ∨ i = 4 ∨ i = 5 ∨ i = 6 ∨ i = 7 ∨ i = 8 ∨ i = 9 ∨ i = 10 ∨ i = 11 ∨ i = 12 := by omega
  rcases hi' with rfl | rfl | rfl | rfl | rfl | rfl | rfl | rfl | rfl | rfl | rfl | rfl | rfl <;> (rw [cell_of_row W n _ _ _ _ h]; rfl)
theorem srng_cells (W : World) (n : Nat) (t : TypeId) (h : Blk W n t #[.int .u8 97, .int .u8 122, .int .u8 65, .int .u8 90, .int .u8 48, .int .u8 57]) : Cells W (some ⟨n, 0, none⟩) 2 3 (rngAt stL stH) := by
  intro _
  refine ⟨_, _, rfl, h.lt, fun i j hi hj => ?_⟩
  have hi' : i = 0 ∨ i = 1 ∨ i = 2 := by omega
  have hj' : j = 0 ∨ j = 1 := by omega
  rcases hi' with rfl | rfl | rfl <;> rcases hj' with rfl | rfl <;> exact h.cell' rfl

set_option maxRecDepth 100000 in
set_option maxHeartbeats 4000000 in
theorem qstay (w : World) : Calls Tryd.prog 39 #[] w fun e w' => e = .returned (Value.agg #[.int .u64 (setW stP 0 : Int), .int .u64 (setW stP 1 : Int), .int .u64 (setW stP 2 : Int), .int .u64 (setW stP 3 : Int)]) ∧ Below w.heap.size w w' := by
  have z0 := gr_alloc (gr_alloc (Below.refl w.heap.size w) (.cells #[.int .u64 0, .int .u64 0, .int .u64 0, .int .u64 0] 61)) (.cells #[.int .u8 97, .int .u8 122, .int .u8 65, .int .u8 90, .int .u8 48, .int .u8 57] 88)
  have b0 := (Blk.new w 61 #[.int .u64 0, .int .u64 0, .int .u64 0, .int .u64 0]).alloc (.cells #[.int .u8 97, .int .u8 122, .int .u8 65, .int .u8 90, .int .u8 48, .int .u8 57] 88)
  have b1 := blk_at (w := w.alloc (.cells #[.int .u64 0, .int .u64 0, .int .u64 0, .int .u64 0] 61)) (t := 88) (cs := #[.int .u8 97, .int .u8 122, .int .u8 65, .int .u8 90, .int .u8 48, .int .u8 57]) (n := w.heap.size + 1) (by simp)
  have H0 := Lib.hid (And.intro z0 (And.intro b0 b1))
  clear z0 b0 b1
  have kc := fun (w : World) (C : Array Value) (n c : Nat) => Lib.run_convert_bytes_const (P := Tryd.prog) w 63 5 C n c Tryd.underlying63 Tryd.underlying5
  have kd : ∀ (w : World) (C : Array Value) (n c : Nat), (convert 63 63 (.slice (some ⟨w.heap.size, 0, none⟩) n c)).run Tryd.prog ((w.alloc (.cells C 5)).drew) = .ok (.slice (some ⟨w.heap.size, 0, none⟩) n c) ((w.alloc (.cells C 5 (C.size, C.size + 1))).drew) := fun w C n c => kc w.drew C n c
  go_enter Tryd.func39, Tryd.ntmps39
  go_wp2_with (fail)
  refine (branges _ 3 _ stL stH (getD_lt _ (by decide)) (getD_lt _ (by decide)) (by decide) _ (srng_cells _ _ _ H0.out.2.2)).mono ?_
  rintro e W1 ⟨rfl, h1⟩
  rw [show rngE stL stH 3 = 0 by decide, show rngV stL stH 3 = rngP stL stH 3 by unfold rngV; rw [if_neg (by decide)]]
  obtain ⟨p, hp⟩ : ∃ p, p = rngP stL stH 3 := ⟨_, rfl⟩
  rw [← hp]
  have z1 := gr_alloc (gr_call H0.out.1 h1) (.cells #[Value.int .u64 (setW p 0 : Int), .int .u64 (setW p 1 : Int), .int .u64 (setW p 2 : Int), .int .u64 (setW p 3 : Int)] 34)
  have r1 := (H0.out.2.1.call h1).alloc (.cells #[Value.int .u64 (setW p 0 : Int), .int .u64 (setW p 1 : Int), .int .u64 (setW p 2 : Int), .int .u64 (setW p 3 : Int)] 34)
  have s1 := Blk.new W1 34 #[Value.int .u64 (setW p 0 : Int), .int .u64 (setW p 1 : Int), .int .u64 (setW p 2 : Int), .int .u64 (setW p 3 : Int)]
  obtain ⟨X, hX⟩ : ∃ X, X = W1.heap.size := ⟨_, rfl⟩
  have hne : w.heap.size < X := by rw [hX]; exact (H0.out.2.1.call h1).lt
  obtain ⟨W2, hW2⟩ : ∃ W2, W2 = W1.alloc (.cells #[Value.int .u64 (setW p 0 : Int), .int .u64 (setW p 1 : Int), .int .u64 (setW p 2 : Int), .int .u64 (setW p 3 : Int)] 34) := ⟨_, rfl⟩
  rw [← hX, ← hW2] at s1
  rw [← hW2] at z1 r1
  have a0 := s1.cell' (i := 0) rfl
  have a1 := s1.cell' (i := 1) rfl
  have a2 := s1.cell' (i := 2) rfl
  have a3 := s1.cell' (i := 3) rfl
  have b0 := r1.cell' (i := 0) rfl
  have b1 := r1.cell' (i := 1) rfl
  have b2 := r1.cell' (i := 2) rfl
  have b3 := r1.cell' (i := 3) rfl
  have f0 := r1.frozen 0
  have f1 := r1.frozen 1
  have f2 := r1.frozen 2
  have f3 := r1.frozen 3
  have l1 := s1.lt
  have l0 := r1.lt
  have HP := Lib.hid (And.intro hp (And.intro hX hW2))
  have H2 := Lib.hid (And.intro z1 (And.intro r1 s1))
  clear h1 hp hX hW2 z1 r1 s1
  go_wp2_with (fail)
  rw [← HP.out.2.2, ← HP.out.2.1]
  go_region_with (first
    | (go_at_call 56; refine (bof _ 13 _ stO (getD_lt _ (by decide)) (by decide) _ (st_cells _ W2.heap.size 5 (13, 14) (by exact heap_alloc_new W2 _))).mono ?_; rintro e W ⟨rfl, hb⟩; have HB : Below W2.heap.size W2 W := (by refine gr_call ?_ hb; repeat (first | exact HB | exact Below.refl _ _ | refine gr_drew ?_ | refine gr_alloc ?_ _)); have hz : w.heap.size < W.heap.size := (by have := HB.size; omega); have c0 := (H2.out.2.2.call HB).cell' (i := 0) rfl; have c1 := (H2.out.2.2.call HB).cell' (i := 1) rfl; have c2 := (H2.out.2.2.call HB).cell' (i := 2) rfl; have c3 := (H2.out.2.2.call HB).cell' (i := 3) rfl; have cl := (H2.out.2.2.call HB).lt)
    | (go_at_call 55; refine (bunion2 _ _ _ _ _ 34 (by first | exact (Blk.new _ _ _).drew | exact Blk.new _ _ _)).mono ?_; rintro e W ⟨rfl, hb⟩; have HB : Below W2.heap.size W2 W := (by refine gr_call ?_ hb; repeat (first | exact HB | exact Below.refl _ _ | refine gr_drew ?_ | refine gr_alloc ?_ _)); have hz : w.heap.size < W.heap.size := (by have := HB.size; omega); have g0 := (H2.out.2.1.call HB).frozen 0; have g1 := (H2.out.2.1.call HB).frozen 1; have g2 := (H2.out.2.1.call HB).frozen 2; have g3 := (H2.out.2.1.call HB).frozen 3; have d0 := (H2.out.2.1.call HB).cell' (i := 0) rfl; have d1 := (H2.out.2.1.call HB).cell' (i := 1) rfl; have d2 := (H2.out.2.1.call HB).cell' (i := 2) rfl; have d3 := (H2.out.2.1.call HB).cell' (i := 3) rfl))
  all_goals
    have HBF := Lib.hid HB
    clear HB
    go_wp2_with (fail)
    refine bodyPost_ret (v := Value.agg #[.int .u64 (setW (orP p (ofP stO 13)) 0 : Int), .int .u64 (setW (orP p (ofP stO 13)) 1 : Int), .int .u64 (setW (orP p (ofP stO 13)) 2 : Int), .int .u64 (setW (orP p (ofP stO 13)) 3 : Int)]) (by simp [results, Tryd.results39, go_sem, d0, d1, d2, d3, hz]) rfl ⟨by rw [HP.out.1, setV_st], ?_⟩
    exact gr_set (gr_set (gr_set (gr_set (gr_call H2.out.1 HBF.out) (by simp) _) (by simp) _) (by simp) _) (by simp) _

set_option maxRecDepth 100000 in
set_option maxHeartbeats 1000000 in
theorem qhas (c : UInt8) (w : World) : Calls Tryd.prog 42 #[Value.agg #[.int .u64 (setW stP 0 : Int), .int .u64 (setW stP 1 : Int), .int .u64 (setW stP 2 : Int), .int .u64 (setW stP 3 : Int)], .int .u8 (c.toNat : Int)] w fun e w' => e = .returned (.bool (stB c)) ∧ Below w.heap.size w w' := by
  have b0 := Blk.new w 59 #[Value.int .u64 (setW stP 0 : Int), .int .u64 (setW stP 1 : Int), .int .u64 (setW stP 2 : Int), .int .u64 (setW stP 3 : Int)]
  have z0 := gr_alloc (Below.refl w.heap.size w) (.cells #[Value.int .u64 (setW stP 0 : Int), .int .u64 (setW stP 1 : Int), .int .u64 (setW stP 2 : Int), .int .u64 (setW stP 3 : Int)] 59)
  have a0 := b0.cell' (i := 0) rfl
  have a1 := b0.cell' (i := 1) rfl
  have a2 := b0.cell' (i := 2) rfl
  have a3 := b0.cell' (i := 3) rfl
  have hl := b0.lt
  generalize hst : stP = st at *
  have HS := Lib.hid hst
  have H := Lib.hid (And.intro b0 z0)
  clear hst b0 z0
  go_enter Tryd.func42, Tryd.ntmps42
  go_wp2_with (fail)
  refine (bhas (setW st) c _ (fun k => setW_lt st k)).mono ?_
  rintro e W1 ⟨rfl, h1⟩
  have H1 := Lib.hid (gr_call H.out.2 h1)
  clear h1
  go_wp2_with (fail)
  go_ret
  exact ⟨by rw [← HS.out, has_st]; rfl, H1.out⟩

set_option maxRecDepth 100000 in
set_option maxHeartbeats 1000000 in
theorem qStay (w : World) : Calls Tryd.prog 15 #[] w fun e w' => e = .returned (Value.agg #[.int .u64 (setW stP 0 : Int), .int .u64 (setW stP 1 : Int), .int .u64 (setW stP 2 : Int), .int .u64 (setW stP 3 : Int)]) ∧ Below w.heap.size w w' := by
  have hf1 : ∀ (a b c d : Value) (w : World), (Instr.field 61 (.agg #[a, b, c, d]) 0).run Tryd.prog w = .ok (.agg #[a, b, c, d]) w := fun a b c d w => by kernel_rfl
  have hf2 : ∀ (a b c d : Value) (w : World), (Instr.field 59 (.agg #[a, b, c, d]) 0).run Tryd.prog w = .ok (.agg #[a, b, c, d]) w := fun a b c d w => by kernel_rfl
  have b0 := Blk.new w 34 #[.int .u64 0, .int .u64 0, .int .u64 0, .int .u64 0]
  have z0 := gr_alloc (Below.refl w.heap.size w) (.cells #[.int .u64 0, .int .u64 0, .int .u64 0, .int .u64 0] 34)
  have H := Lib.hid (And.intro b0 z0)
  clear b0 z0
  go_enter Tryd.func15, Tryd.ntmps15
  go_wp2_with (fail)
  refine (qstay _).mono ?_
  rintro e W1 ⟨rfl, h1⟩
  have r1 := H.out.1.call h1
  have b0 := r1.cell' (i := 0) rfl
  have b1 := r1.cell' (i := 1) rfl
  have b2 := r1.cell' (i := 2) rfl
  have b3 := r1.cell' (i := 3) rfl
  have f0 := r1.frozen 0
  have f1 := r1.frozen 1
  have f2 := r1.frozen 2
  have f3 := r1.frozen 3
  have hl := r1.lt
  have H1 := Lib.hid (And.intro r1 (gr_call H.out.2 h1))
  generalize hst : stP = st at *
  have HS := Lib.hid hst
  clear hst h1 r1
  go_wp2_with (fail)
  refine bodyPost_ret (v := Value.agg #[.int .u64 (setW st 0 : Int), .int .u64 (setW st 1 : Int), .int .u64 (setW st 2 : Int), .int .u64 (setW st 3 : Int)]) (by simp [results, Tryd.results15, go_sem, b0, b1, b2, b3, hl]) rfl ⟨by rw [HS.out], ?_⟩
  exact gr_set (gr_set (gr_set (gr_set H1.out.2 (by simp) _) (by simp) _) (by simp) _) (by simp) _
end Go.Proofs.YtfbkbnojbbpopaaDoor
