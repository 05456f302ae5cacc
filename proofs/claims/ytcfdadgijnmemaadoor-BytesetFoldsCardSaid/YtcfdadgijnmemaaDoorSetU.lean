/-
  byteset.All and its reference, and the law's own 'of'; no condition.
-/
import Derived.Test.YtcfdadgijnmemaaDoorSetN
import Derived.Test.YtcfdadgijnmemaaDoorSetEq
import Derived.Lib.ConvBytes
import Derived.Deep.RegionHeld3
namespace Go.Proofs.YtcfdadgijnmemaaDoor
open Go.RowKit
set_option linter.unusedVariables false
set_option linter.unusedSimpArgs false

theorem below_bytesWorld (w : World) (e : TypeId) (s : ByteArray) : Below w.heap.size w (Lib.bytesWorld w e s) :=
  ⟨by simp [Lib.bytesWorld, World.freeze, World.alloc, World.drew, -World.alloc_eq, -World.drew_eq], by simp [Lib.bytesWorld, World.freeze, World.alloc, World.drew, -World.alloc_eq, -World.drew_eq], by simp [Lib.bytesWorld, World.freeze, World.alloc, World.drew, -World.alloc_eq, -World.drew_eq], by rw [Lib.bytesWorld_size]; omega, fun j hj => Lib.bytesWorld_at_old w e s j hj⟩
/-- The bytes of a string. -/
def byS (s : ByteArray) : Nat → Nat := fun i => (s.data.toList.getD i 0).toNat
/-- The set of a string's bytes. -/
def ofS (s : ByteArray) : Nat → Bool := ofP (byS s) s.size
theorem bytes_cells (w : World) (s : ByteArray) : Cells (Lib.bytesWorld w 5 s) (some ⟨w.heap.size, 0, none⟩) 1 s.size (byteAt (byS s)) :=
  fun _ => ⟨_, _, rfl, by rw [Lib.bytesWorld_size]; omega, fun i j hi hj => by
    obtain rfl : j = 0 := by omega
    rw [Nat.zero_add, Nat.mul_one, Nat.add_zero]
    exact Lib.bytesWorld_cell w 5 s i hi⟩
theorem byS_lt (s : ByteArray) (i : Nat) : byS s i < 256 := (s.data.toList.getD i 0).toNat_lt

theorem bof_str (s : ByteArray) (hs : s.size ≤ 140737488355328) (n cap : Nat) (W : World) (hn : n = W.heap.size) :
    Calls Tryd.prog 13 #[.slice (some ⟨n, 0, none⟩) s.size cap] (Lib.bytesWorld W 5 s) fun e w' => e = .returned (Value.agg #[.int .u64 (setW (ofS s) 0 : Int), .int .u64 (setW (ofS s) 1 : Int), .int .u64 (setW (ofS s) 2 : Int), .int .u64 (setW (ofS s) 3 : Int)]) ∧ Below (Lib.bytesWorld W 5 s).heap.size (Lib.bytesWorld W 5 s) w' := by
  subst hn
  exact bof _ _ _ (byS s) (byS_lt s) hs _ (bytes_cells W s)

set_option maxRecDepth 100000 in
set_option maxHeartbeats 1000000 in
theorem lof (s : ByteArray) (hs : s.size ≤ 140737488355328) (w : World) :
    Calls Tryd.prog 37 #[.string s] w fun e w' => e = .returned (Value.agg #[.int .u64 (setW (ofS s) 0 : Int), .int .u64 (setW (ofS s) 1 : Int), .int .u64 (setW (ofS s) 2 : Int), .int .u64 (setW (ofS s) 3 : Int)]) ∧ Below w.heap.size w w' := by
  have hcv := fun W => Lib.run_convert_string_bytes (P := Tryd.prog) W 9 22 5 s Tryd.underlying9 Tryd.underlying22 Tryd.underlying5
  go_enter Tryd.func37, Tryd.ntmps37
  go_wp2_with (fail)
  refine (bof_str s hs _ _ _ (by simp)).mono ?_
  rintro e W1 ⟨rfl, hb1⟩
  have hB := gr_call (gr_call (gr_alloc (Below.refl w.heap.size w) (.cells #[.int .u64 0, .int .u64 0, .int .u64 0, .int .u64 0] 28)) (below_bytesWorld _ _ s)) hb1
  have hbk : Blk W1 w.heap.size 28 #[.int .u64 0, .int .u64 0, .int .u64 0, .int .u64 0] := ((Blk.new w 28 #[.int .u64 0, .int .u64 0, .int .u64 0, .int .u64 0]).call (below_bytesWorld _ _ s)).call hb1
  have a0 := hbk.cell' (i := 0) rfl
  have a1 := hbk.cell' (i := 1) rfl
  have a2 := hbk.cell' (i := 2) rfl
  have a3 := hbk.cell' (i := 3) rfl
  have f0 := hbk.frozen 0
  have f1 := hbk.frozen 1
  have f2 := hbk.frozen 2
  have f3 := hbk.frozen 3
  have HB := Lib.hid hB
  clear hB hbk hb1
  go_wp2_with (fail)
  refine bodyPost_ret (v := Value.agg #[.int .u64 (setW (ofS s) 0 : Int), .int .u64 (setW (ofS s) 1 : Int), .int .u64 (setW (ofS s) 2 : Int), .int .u64 (setW (ofS s) 3 : Int)]) (by simp [results, Tryd.results37, go_sem, a0, a1, a2, a3, ofS]) rfl ⟨rfl, ?_⟩
  exact gr_set (gr_set (gr_set (gr_set HB.out (by simp) _) (by simp) _) (by simp) _) (by simp) _

/-- Whether all bytes of a string are in a set. -/
def allS (p : Nat → Bool) (s : ByteArray) : Bool := s.data.toList.all fun c => p c.toNat

set_option maxRecDepth 100000 in
set_option maxHeartbeats 1000000 in
theorem rall (p : Nat → Bool) (s : ByteArray) (hs : s.size ≤ 1000000000) (w : World) :
    Calls Tryd.prog 24 #[Value.agg #[.int .u64 (setW p 0 : Int), .int .u64 (setW p 1 : Int), .int .u64 (setW p 2 : Int), .int .u64 (setW p 3 : Int)], .string s] w fun e w' => e = .returned (.bool (allS p s)) ∧ Below w.heap.size w w' := by
  go_enter Tryd.func24, Tryd.ntmps24
  go_wp2_with (fail)
  go_loopw [5] (fun i wr => ∃ k : Nat, k ≤ s.size ∧ i = .int .i64 (k : Int) ∧ (s.data.toList.take k).all (fun c => p c.toNat) = true ∧ Blk wr w.heap.size 28 #[Value.int .u64 (setW p 0 : Int), .int .u64 (setW p 1 : Int), .int .u64 (setW p 2 : Int), .int .u64 (setW p 3 : Int)] ∧ Below w.heap.size w wr) (fun i _ => s.size - (intOf i).toNat)
  case atStart => exact ⟨0, by omega, rfl, rfl, Blk.new _ _ _, gr_alloc (Below.refl _ _) _⟩
  case round =>
    obtain ⟨k, hk, rfl, hall, hblk, hB⟩ := hrel
    by_cases hlt : k < s.size
    · obtain ⟨x, hx⟩ : ∃ x, x = s[k] := ⟨_, rfl⟩
      have hxS : s[k] = x := hx.symm
      have hxb := x.toNat_lt
      have hi0 : (0 : Int) ≤ k := by omega
      have htk := take_at s k hlt
      have a0 := hblk.cell' (i := 0) rfl
      have a1 := hblk.cell' (i := 1) rfl
      have a2 := hblk.cell' (i := 2) rfl
      have a3 := hblk.cell' (i := 3) rfl
      have HD := Lib.hid (And.intro hall (And.intro hblk (And.intro hB (And.intro htk hx))))
      clear hall hblk hB htk hx
      cases hp : p x.toNat
      · have HP := Lib.hid hp
        have fin : Hid (allS p s = false) := Lib.hid (by
          unfold allS
          rw [List.all_eq_false]
          refine ⟨x, ?_, by rw [hp]; decide⟩
          rw [HD.out.2.2.2.2]
          exact List.mem_of_mem_take (i := k + 1) (by rw [HD.out.2.2.2.1]; simp))
        clear hp
        go_wp2_with (fail)
        go_still_tail 4, (by kernel_rfl)
        change wpList _ _ _ _ _ wr.drew
        go_wp2_with (fail)
        refine (rhasp p x.toNat (by omega) _).mono ?_
        rintro e W1 ⟨rfl, hb1⟩
        rw [HP.out]
        have HE := Lib.hid (gr_call (gr_drew (Below.refl wr.heap.size wr)) hb1)
        clear hb1
        go_wp2_with (fail)
        go_ret
        exact ⟨ret_bool fin.out.symm, gr_call HD.out.2.2.1 HE.out⟩
      · have HP := Lib.hid hp
        clear hp
        go_wp2_with (fail)
        go_still_tail 4, (by kernel_rfl)
        change wpList _ _ _ _ _ wr.drew
        go_wp2_with (fail)
        refine (rhasp p x.toNat (by omega) _).mono ?_
        rintro e W1 ⟨rfl, hb1⟩
        rw [HP.out]
        have HE := Lib.hid (gr_call (gr_drew (Below.refl wr.heap.size wr)) hb1)
        clear hb1
        go_wp2_with (fail)
        obtain ⟨hall, hblk, hB, htk, hx⟩ := HD.out
        refine ⟨⟨k + 1, by omega, by go_num, ?_, hblk.call HE.out, gr_call hB HE.out⟩, by simp [intOf]; omega⟩
        rw [htk, List.all_append, hall, ← hx]
        simp [HP.out]
    · obtain rfl : k = s.size := by omega
      have fin : Hid (allS p s = true) := Lib.hid (by
        unfold allS
        rw [List.take_of_length_le (by rw [size_data]; exact Nat.le_refl _)] at hall
        exact hall)
      have HB := Lib.hid hB
      clear hall hblk hB
      go_wp2_with (fail)
      go_ret
      exact ⟨ret_bool fin.out.symm, HB.out⟩

theorem bcommon2 (n cap : Nat) (p q : Nat → Bool) (W : World) (t : TypeId) (hn : Blk W n t #[Value.int .u64 (setW p 0 : Int), .int .u64 (setW p 1 : Int), .int .u64 (setW p 2 : Int), .int .u64 (setW p 3 : Int), Value.int .u64 (setW q 0 : Int), .int .u64 (setW q 1 : Int), .int .u64 (setW q 2 : Int), .int .u64 (setW q 3 : Int)]) :
    Calls Tryd.prog 17 #[.slice (some ⟨n, 0, none⟩) 2 cap] W fun e w' => e = .returned (Value.agg #[.int .u64 (setW (andP p q) 0 : Int), .int .u64 (setW (andP p q) 1 : Int), .int .u64 (setW (andP p q) 2 : Int), .int .u64 (setW (andP p q) 3 : Int)]) ∧ Below W.heap.size W w' := by
  refine (bcommon _ 2 cap (fun k => if k = 0 then p else q) (by decide) _ (fun _ => ⟨_, _, rfl, hn.lt, fun i j hi hj => ?_⟩)).mono ?_
  · have h := hn.cell (i * 4 + j)
    rw [Nat.zero_add, h]
    match i, j, hi, hj with
    | 0, 0, _, _ => rfl
    | 0, 1, _, _ => rfl
    | 0, 2, _, _ => rfl
    | 0, 3, _, _ => rfl
    | 1, 0, _, _ => rfl
    | 1, 1, _, _ => rfl
    | 1, 2, _, _ => rfl
    | 1, 3, _, _ => rfl
  rintro e w' ⟨rfl, hb⟩
  refine ⟨?_, hb⟩
  have : andL (fun k => if k = 0 then p else q) 2 = andP p q := by
    funext c; simp [andL, andP, fullP]
  rw [this]

theorem ofP_mem (Z : Nat → Nat) (n c : Nat) : ofP Z n c = true ↔ ∃ i, i < n ∧ Z i = c := by
  induction n with
  | zero => simp [ofP, noP]
  | succ n ih =>
    unfold ofP insP
    rw [Bool.or_eq_true, decide_eq_true_eq, ih]
    constructor
    · rintro (rfl | ⟨i, hi, rfl⟩)
      · exact ⟨n, by omega, rfl⟩
      · exact ⟨i, by omega, rfl⟩
    · rintro ⟨i, hi, rfl⟩
      by_cases e : i = n
      · left; rw [e]
      · right; exact ⟨i, by omega, rfl⟩
theorem ofS_mem (s : ByteArray) (c : Nat) : ofS s c = true ↔ ∃ x ∈ s.data.toList, x.toNat = c := by
  unfold ofS
  rw [ofP_mem]
  constructor
  · rintro ⟨i, hi, rfl⟩
    refine ⟨s.data.toList[i]'(by rw [size_data]; exact hi), List.getElem_mem _, ?_⟩
    unfold byS
    rw [List.getD_eq_getElem?_getD, List.getElem?_eq_getElem (by rw [size_data]; exact hi)]; rfl
  · rintro ⟨x, hx, rfl⟩
    obtain ⟨i, hi, rfl⟩ := List.getElem_of_mem hx
    refine ⟨i, by rw [← size_data]; exact hi, ?_⟩
    unfold byS
    rw [List.getD_eq_getElem?_getD, List.getElem?_eq_getElem hi]; rfl
theorem allS_eq (p : Nat → Bool) (s : ByteArray) : eqP (andP p (ofS s)) (ofS s) = allS p s := by
  rw [Bool.eq_iff_iff, eqP_iff]
  unfold allS
  rw [List.all_eq_true]
  constructor
  · intro h x hx
    have h1 : ofS s x.toNat = true := (ofS_mem s _).2 ⟨x, hx, rfl⟩
    have := h x.toNat x.toNat_lt
    unfold andP at this
    rw [h1, Bool.and_true] at this
    exact this
  · intro h c hc
    unfold andP
    cases ho : ofS s c
    · simp
    · obtain ⟨x, hx, rfl⟩ := (ofS_mem s c).1 ho
      rw [h x hx]; rfl

set_option maxRecDepth 100000 in
set_option maxHeartbeats 2000000 in
theorem ball (p : Nat → Bool) (s : ByteArray) (hs : s.size ≤ 1000000000) (w : World) :
    Calls Tryd.prog 23 #[Value.agg #[.int .u64 (setW p 0 : Int), .int .u64 (setW p 1 : Int), .int .u64 (setW p 2 : Int), .int .u64 (setW p 3 : Int)], .string s] w fun e w' => e = .returned (.bool (allS p s)) ∧ Below w.heap.size w w' := by
  have hcv := fun W => Lib.run_convert_string_bytes (P := Tryd.prog) W 9 22 5 s Tryd.underlying9 Tryd.underlying22 Tryd.underlying5
  have heq := eqSet (andP p (ofS s)) (ofS s)
  have hbk := Blk.new w 28 #[Value.int .u64 (setW p 0 : Int), .int .u64 (setW p 1 : Int), .int .u64 (setW p 2 : Int), .int .u64 (setW p 3 : Int)]
  have HBK := Lib.hid hbk
  clear hbk
  go_enter Tryd.func23, Tryd.ntmps23
  go_wp2_with (fail)
  refine (bof_str s (by omega) _ _ _ (by simp)).mono ?_
  rintro e W1 ⟨rfl, hb1⟩
  obtain ⟨W2, hW2⟩ : ∃ X, X = W1.alloc (.cells #[Value.int .u64 (setW (ofS s) 0 : Int), .int .u64 (setW (ofS s) 1 : Int), .int .u64 (setW (ofS s) 2 : Int), .int .u64 (setW (ofS s) 3 : Int)] 28) := ⟨_, rfl⟩
  have hB := gr_alloc (gr_call (gr_call (gr_alloc (Below.refl w.heap.size w) (.cells #[Value.int .u64 (setW p 0 : Int), .int .u64 (setW p 1 : Int), .int .u64 (setW p 2 : Int), .int .u64 (setW p 3 : Int)] 28)) (below_bytesWorld _ 5 s)) hb1) (.cells #[Value.int .u64 (setW (ofS s) 0 : Int), .int .u64 (setW (ofS s) 1 : Int), .int .u64 (setW (ofS s) 2 : Int), .int .u64 (setW (ofS s) 3 : Int)] 28)
  have h0 := ((HBK.out.call (below_bytesWorld _ 5 s)).call hb1).alloc (.cells #[Value.int .u64 (setW (ofS s) 0 : Int), .int .u64 (setW (ofS s) 1 : Int), .int .u64 (setW (ofS s) 2 : Int), .int .u64 (setW (ofS s) 3 : Int)] 28)
  have h1 := Blk.new W1 28 #[Value.int .u64 (setW (ofS s) 0 : Int), .int .u64 (setW (ofS s) 1 : Int), .int .u64 (setW (ofS s) 2 : Int), .int .u64 (setW (ofS s) 3 : Int)]
  rw [← hW2] at h0 h1 hB
  obtain ⟨X, hX⟩ : ∃ X, X = W1.heap.size := ⟨_, rfl⟩
  rw [← hX] at h1
  have a0 := h0.cell' (i := 0) rfl
  have a1 := h0.cell' (i := 1) rfl
  have a2 := h0.cell' (i := 2) rfl
  have a3 := h0.cell' (i := 3) rfl
  have b0 := h1.cell' (i := 0) rfl
  have b1 := h1.cell' (i := 1) rfl
  have b2 := h1.cell' (i := 2) rfl
  have b3 := h1.cell' (i := 3) rfl
  have z0 := h0.lt
  have z1 := h1.lt
  have HB := Lib.hid (And.intro h0 (And.intro h1 (And.intro hB (And.intro hW2 hX))))
  clear hB h0 h1 hb1 hW2 hX
  go_wp2_with (fail)
  rw [← HB.out.2.2.2.1, ← HB.out.2.2.2.2]
  go_region_held3 (fun w' => w'.cell? ⟨w.heap.size, 0, none⟩ = some (.int .u64 (setW p 0 : Int)) ∧ w'.cell? ⟨w.heap.size, 1, none⟩ = some (.int .u64 (setW p 1 : Int)) ∧ w'.cell? ⟨w.heap.size, 2, none⟩ = some (.int .u64 (setW p 2 : Int)) ∧ w'.cell? ⟨w.heap.size, 3, none⟩ = some (.int .u64 (setW p 3 : Int)) ∧ w'.cell? ⟨X, 0, none⟩ = some (.int .u64 (setW (ofS s) 0 : Int)) ∧ w'.cell? ⟨X, 1, none⟩ = some (.int .u64 (setW (ofS s) 1 : Int)) ∧ w'.cell? ⟨X, 2, none⟩ = some (.int .u64 (setW (ofS s) 2 : Int)) ∧ w'.cell? ⟨X, 3, none⟩ = some (.int .u64 (setW (ofS s) 3 : Int)))
    (first
      | go_keep
      | (go_split_ands
         refine ⟨?_, ?_, ?_, ?_, ?_, ?_, ?_, ?_⟩ <;> (rw [hb.cell (by first | omega | (simp; done) | (simp; omega))]; assumption)))
    (first
      | (go_at_call 17; refine (bcommon2 _ _ _ _ _ 28 (by first | exact (Blk.new _ _ _).drew | exact Blk.new _ _ _)).mono ?_; rintro e W ⟨rfl, hb⟩; have HB2 : Below W2.heap.size W2 W := (by refine gr_call ?_ hb; repeat (first | exact Below.refl _ _ | refine gr_drew ?_ | refine gr_alloc ?_ _))))
  go_wp2_with (fail)
  go_ret
  refine ⟨ret_bool ?_, gr_call HB.out.2.2.1 HB2⟩
  exact allS_eq p s
end Go.Proofs.YtcfdadgijnmemaaDoor
