/-
  token.chars and token.Is, walked; no condition.
-/
import Derived.Test.YtllhcfgddcjfkaaDoorBstE
import Derived.Lib.SlBytesConst
namespace Go.Proofs.YtllhcfgddcjfkaaDoor
open Go.RowKit
set_option linter.unusedVariables false
set_option linter.unusedSimpArgs false

/-- The ranges of tokens' bytes, and the other bytes. -/
def tokL (i : Nat) : Nat := [48, 65, 97].getD i 0
def tokH (i : Nat) : Nat := [57, 90, 122].getD i 0
def tokO (i : Nat) : Nat := [33, 35, 36, 37, 38, 39, 42, 43, 45, 46, 94, 95, 96, 124, 126].getD i 0
def tokP : Nat → Bool := orP (rngP tokL tokH 3) (ofP tokO 15)
theorem getD_lt (l : List Nat) (h : ∀ x ∈ l, x < 256) (i : Nat) : l.getD i 0 < 256 := by
  rw [List.getD_eq_getElem?_getD]
  cases e : l[i]? with
  | none => decide
  | some x => exact h x (List.mem_of_getElem? e)
theorem tok_cells (W : World) (n : Nat) (t : TypeId) (fr : Nat × Nat) (h : W.heap[n]? = some (.cells #[.int .u8 33, .int .u8 35, .int .u8 36, .int .u8 37, .int .u8 38, .int .u8 39, .int .u8 42, .int .u8 43, .int .u8 45, .int .u8 46, .int .u8 94, .int .u8 95, .int .u8 96, .int .u8 124, .int .u8 126] t fr)) : Cells W (some ⟨n, 0, none⟩) 1 15 (byteAt tokO) := by
  intro _
  refine ⟨_, _, rfl, (Array.getElem?_eq_some_iff.1 h).1, fun i j hi hj => ?_⟩
  obtain rfl : j = 0 := by omega
  have hi' : i = 0 ∨ i = 1 ∨ i = 2 ∨ i = 3 ∨ i = 4 ∨ i = 5 ∨ i = 6 ∨ i = 7 ∨ i = 8 ∨ i = 9 ∨ i = 10 ∨ i = 11 ∨ i = 12 ∨ i = 13 ∨ i = 14 := by omega
  rcases hi' with rfl | rfl | rfl | rfl | rfl | rfl | rfl | rfl | rfl | rfl | rfl | rfl | rfl | rfl | rfl <;> (rw [cell_of_row W n _ _ _ _ h]; rfl)
theorem rng_cells (W : World) (n : Nat) (t : TypeId) (h : Blk W n t #[.int .u8 48, .int .u8 57, .int .u8 65, .int .u8 90, .int .u8 97, .int .u8 122]) : Cells W (some ⟨n, 0, none⟩) 2 3 (rngAt tokL tokH) := by
  intro _
  refine ⟨_, _, rfl, h.lt, fun i j hi hj => ?_⟩
  have hi' : i = 0 ∨ i = 1 ∨ i = 2 := by omega
  have hj' : j = 0 ∨ j = 1 := by omega
  rcases hi' with rfl | rfl | rfl <;> rcases hj' with rfl | rfl <;> exact h.cell' rfl

set_option maxRecDepth 100000 in
set_option maxHeartbeats 4000000 in
theorem tchars (w : World) : Calls Tryd.prog 41 #[] w fun e w' => e = .returned (Value.agg #[.int .u64 (setW tokP 0 : Int), .int .u64 (setW tokP 1 : Int), .int .u64 (setW tokP 2 : Int), .int .u64 (setW tokP 3 : Int)]) ∧ Below w.heap.size w w' := by
  have z0 := gr_alloc (gr_alloc (Below.refl w.heap.size w) (.cells #[.int .u64 0, .int .u64 0, .int .u64 0, .int .u64 0] 64)) (.cells #[.int .u8 48, .int .u8 57, .int .u8 65, .int .u8 90, .int .u8 97, .int .u8 122] 73)
  have b0 := (Blk.new w 64 #[.int .u64 0, .int .u64 0, .int .u64 0, .int .u64 0]).alloc (.cells #[.int .u8 48, .int .u8 57, .int .u8 65, .int .u8 90, .int .u8 97, .int .u8 122] 73)
  have b1 := blk_at (w := w.alloc (.cells #[.int .u64 0, .int .u64 0, .int .u64 0, .int .u64 0] 64)) (t := 73) (cs := #[.int .u8 48, .int .u8 57, .int .u8 65, .int .u8 90, .int .u8 97, .int .u8 122]) (n := w.heap.size + 1) (by simp)
  have H0 := Lib.hid (And.intro z0 (And.intro b0 b1))
  clear z0 b0 b1
  have kc := fun (w : World) (C : Array Value) (n c : Nat) => Lib.run_convert_bytes_const (P := Tryd.prog) w 56 5 C n c Tryd.underlying56 Tryd.underlying5
  have kd : ∀ (w : World) (C : Array Value) (n c : Nat), (convert 56 56 (.slice (some ⟨w.heap.size, 0, none⟩) n c)).run Tryd.prog ((w.alloc (.cells C 5)).drew) = .ok (.slice (some ⟨w.heap.size, 0, none⟩) n c) ((w.alloc (.cells C 5 (C.size, C.size + 1))).drew) := fun w C n c => kc w.drew C n c
  go_enter Tryd.func41, Tryd.ntmps41
  go_wp2_with (fail)
  refine (branges _ 3 _ tokL tokH (getD_lt _ (by decide)) (getD_lt _ (by decide)) (by decide) _ (rng_cells _ _ _ H0.out.2.2)).mono ?_
  rintro e W1 ⟨rfl, h1⟩
  rw [show rngE tokL tokH 3 = 0 by decide, show rngV tokL tokH 3 = rngP tokL tokH 3 by unfold rngV; rw [if_neg (by decide)]]
  obtain ⟨p, hp⟩ : ∃ p, p = rngP tokL tokH 3 := ⟨_, rfl⟩
  rw [← hp]
  have z1 := gr_alloc (gr_call H0.out.1 h1) (.cells #[Value.int .u64 (setW p 0 : Int), .int .u64 (setW p 1 : Int), .int .u64 (setW p 2 : Int), .int .u64 (setW p 3 : Int)] 64)
  have r1 := (H0.out.2.1.call h1).alloc (.cells #[Value.int .u64 (setW p 0 : Int), .int .u64 (setW p 1 : Int), .int .u64 (setW p 2 : Int), .int .u64 (setW p 3 : Int)] 64)
  have s1 := Blk.new W1 64 #[Value.int .u64 (setW p 0 : Int), .int .u64 (setW p 1 : Int), .int .u64 (setW p 2 : Int), .int .u64 (setW p 3 : Int)]
  obtain ⟨X, hX⟩ : ∃ X, X = W1.heap.size := ⟨_, rfl⟩
  have hne : w.heap.size < X := by rw [hX]; exact (H0.out.2.1.call h1).lt
  obtain ⟨W2, hW2⟩ : ∃ W2, W2 = W1.alloc (.cells #[Value.int .u64 (setW p 0 : Int), .int .u64 (setW p 1 : Int), .int .u64 (setW p 2 : Int), .int .u64 (setW p 3 : Int)] 64) := ⟨_, rfl⟩
  rw [← hX, ← hW2] at s1
  rw [← hW2] at z1 r1
  have a0 := s1.cell' (i := 0) rfl
  have a1 := s1.cell' (i := 1) rfl
  have a2 := s1.cell' (i := 2) rfl
  have a3 := s1.cell' (i := 3) rfl
  have b0 := r1.cell' (i := 0) rfl
  have b1 := r1.cell' (i := 1) rfl
  have b2 := r1.cell' (i := 2) rfl
  have b3 := r1.cell' (i := 3) rfl
  have f0 := r1.frozen 0
  have f1 := r1.frozen 1
  have f2 := r1.frozen 2
  have f3 := r1.frozen 3
  have l1 := s1.lt
  have l0 := r1.lt
  have HP := Lib.hid (And.intro hp (And.intro hX hW2))
  have H2 := Lib.hid (And.intro z1 (And.intro r1 s1))
  clear h1 hp hX hW2 z1 r1 s1
  go_wp2_with (fail)
  rw [← HP.out.2.2, ← HP.out.2.1]
  go_region_with (first
    | (go_at_call 47; refine (bof _ 15 _ tokO (getD_lt _ (by decide)) (by decide) _ (tok_cells _ W2.heap.size 5 (15, 16) (by exact heap_alloc_new W2 _))).mono ?_; rintro e W ⟨rfl, hb⟩; have HB : Below W2.heap.size W2 W := (by refine gr_call ?_ hb; repeat (first | exact HB | exact Below.refl _ _ | refine gr_drew ?_ | refine gr_alloc ?_ _)); have hz : w.heap.size < W.heap.size := (by have := HB.size; omega); have c0 := (H2.out.2.2.call HB).cell' (i := 0) rfl; have c1 := (H2.out.2.2.call HB).cell' (i := 1) rfl; have c2 := (H2.out.2.2.call HB).cell' (i := 2) rfl; have c3 := (H2.out.2.2.call HB).cell' (i := 3) rfl; have cl := (H2.out.2.2.call HB).lt)
    | (go_at_call 50; refine (bunion2 _ _ _ _ _ 64 (by first | exact (Blk.new _ _ _).drew | exact Blk.new _ _ _)).mono ?_; rintro e W ⟨rfl, hb⟩; have HB : Below W2.heap.size W2 W := (by refine gr_call ?_ hb; repeat (first | exact HB | exact Below.refl _ _ | refine gr_drew ?_ | refine gr_alloc ?_ _)); have hz : w.heap.size < W.heap.size := (by have := HB.size; omega); have g0 := (H2.out.2.1.call HB).frozen 0; have g1 := (H2.out.2.1.call HB).frozen 1; have g2 := (H2.out.2.1.call HB).frozen 2; have g3 := (H2.out.2.1.call HB).frozen 3; have d0 := (H2.out.2.1.call HB).cell' (i := 0) rfl; have d1 := (H2.out.2.1.call HB).cell' (i := 1) rfl; have d2 := (H2.out.2.1.call HB).cell' (i := 2) rfl; have d3 := (H2.out.2.1.call HB).cell' (i := 3) rfl))
  all_goals
    have HBF := Lib.hid HB
    clear HB
    go_wp2_with (fail)
    refine bodyPost_ret (v := Value.agg #[.int .u64 (setW (orP p (ofP tokO 15)) 0 : Int), .int .u64 (setW (orP p (ofP tokO 15)) 1 : Int), .int .u64 (setW (orP p (ofP tokO 15)) 2 : Int), .int .u64 (setW (orP p (ofP tokO 15)) 3 : Int)]) (by simp [results, Tryd.results41, go_sem, d0, d1, d2, d3, hz]) rfl ⟨by rw [HP.out.1]; rfl, ?_⟩
    exact gr_set (gr_set (gr_set (gr_set (gr_call H2.out.1 HBF.out) (by simp) _) (by simp) _) (by simp) _) (by simp) _

/-- Is a string a token? -/
def isT (s : ByteArray) : Bool := decide (s.size ≠ 0) && allS tokP s
theorem empty_of_size {s : ByteArray} (h : s.size = 0) : s = ⟨#[]⟩ := by
  apply str_ext
  apply List.eq_nil_of_length_eq_zero
  rw [size_data]; exact h

theorem ne_toList (u : ByteArray) (h : 0 < u.size) : u.data.toList ≠ [] := by
  intro e
  have := size_data u
  rw [e] at this
  simp at this
  omega
theorem empty_toList (u : ByteArray) (h : ¬ 0 < u.size) : u = ⟨#[]⟩ := by apply ByteArray.ext; apply Array.eq_empty_of_size_eq_zero; show u.size = 0; omega
theorem nonempty_e (u : ByteArray) (h : 0 < u.size) : u.toList.isEmpty = false := by
  rw [Lib.toList_data]
  have := ne_toList u h
  cases e : u.data.toList with
  | nil => exact absurd e this
  | cons => rfl
theorem nonempty_b (u : ByteArray) (h : 0 < u.size) : (u.toList == []) = false := by
  rw [Lib.toList_data]
  have := ne_toList u h
  cases e : u.data.toList with
  | nil => exact absurd e this
  | cons => rfl

set_option maxRecDepth 100000 in
set_option maxHeartbeats 2000000 in
theorem tis (s : ByteArray) (hs : s.size ≤ 1000000) (w : World) : Calls Tryd.prog 32 #[.string s] w fun e w' => e = .returned (.bool (isT s)) ∧ Below w.heap.size w w' := by
  by_cases he : s = ⟨#[]⟩
  · subst he
    go_enter Tryd.func32, Tryd.ntmps32
    go_wp2_with (fail)
    go_ret
    exact ⟨rfl, Below.refl _ _⟩
  · have hi : isT s = allS tokP s := by
      unfold isT
      rw [decide_eq_true (show s.size ≠ 0 from fun h => he (empty_of_size h))]
      rfl
    have hne := nonempty_b s (Nat.pos_of_ne_zero fun h => he (empty_of_size h))
    rw [hi]
    clear hi
    go_enter Tryd.func32, Tryd.ntmps32
    go_wp2_with (fail)
    refine (tchars _).mono ?_
    rintro e W1 ⟨rfl, h1⟩
    have H1 := Lib.hid h1
    clear h1
    generalize htp : tokP = p
    have hTP := Lib.hid htp
    clear htp
    go_wp2_with (fail)
    refine (ball p s (by omega) _).mono ?_
    rintro e W2 ⟨rfl, h2⟩
    have H2 := Lib.hid (gr_call H1.out h2)
    clear h2
    go_wp2_with (fail)
    go_ret
    exact ⟨by rw [hTP.out]; rfl, H2.out⟩
end Go.Proofs.YtllhcfgddcjfkaaDoor
