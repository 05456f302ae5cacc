/-
  byteset.Not and Common, as the plain functions say; condition: each list lies in memory.
-/
import Derived.Test.YtllhcfgddcjfkaaDoorBstB
namespace Go.Proofs.YtllhcfgddcjfkaaDoor
open Go.RowKit
set_option linter.unusedVariables false
set_option linter.unusedSimpArgs false


/-- A call's set, in block v, and its result's block r. -/
def SetIn (w : World) (v r : Nat) (q : Nat → Bool) (wr : World) : Prop :=
  Blk wr v 64 #[Value.int .u64 (setW q 0 : Int), .int .u64 (setW q 1 : Int), .int .u64 (setW q 2 : Int), .int .u64 (setW q 3 : Int)] ∧ Blk wr r 64 #[.int .u64 0, .int .u64 0, .int .u64 0, .int .u64 0] ∧ (v ≠ r ∧ w.heap.size ≤ v ∧ w.heap.size ≤ r) ∧ Below w.heap.size w wr
theorem SetIn.set_ {w wr : World} {v r : Nat} {q q' : Nat → Bool} (h : SetIn w v r q wr) {i : Nat} {x : Value} (hs : (setC q).setIfInBounds i x = setC q') : SetIn w v r q' (wr.setCell ⟨v, i, none⟩ x) := by
  obtain ⟨h1, h2, h3, h4⟩ := h
  refine ⟨?_, h2.far (Ne.symm h3.1) _, h3, h4.setCell h3.2.1 _⟩
  have := h1.set_ i x
  unfold setC at hs
  rwa [hs] at this
theorem SetIn.below {w wr wr' : World} {v r : Nat} {q : Nat → Bool} (h : SetIn w v r q wr) (hb : Below wr.heap.size wr wr') : SetIn w v r q wr' :=
  ⟨h.1.call hb, h.2.1.call hb, h.2.2.1, gr_call h.2.2.2 hb⟩
theorem SetIn.same {w wr : World} {v r : Nat} {q q' : Nat → Bool} (h : SetIn w v r q wr) (hs : setC q = setC q') : SetIn w v r q' wr := by
  unfold setC at hs
  unfold SetIn at *
  rwa [hs] at h
theorem SetIn.drew {w wr : World} {v r : Nat} {q : Nat → Bool} (h : SetIn w v r q wr) : SetIn w v r q wr.drew := ⟨h.1.drew, h.2.1.drew, h.2.2.1, gr_drew h.2.2.2⟩
theorem SetIn.drewN {w wr : World} {v r : Nat} {q : Nat → Bool} (h : SetIn w v r q wr) (n : Nat) : SetIn w v r q (wr.drewN n) := ⟨h.1.drewN n, h.2.1.drewN n, h.2.2.1, below_drewN h.2.2.2 n⟩
theorem SetIn.alloc {w wr : World} {v r : Nat} {q : Nat → Bool} (h : SetIn w v r q wr) (o : Obj) : SetIn w v r q (wr.alloc o) := ⟨h.1.alloc o, h.2.1.alloc o, h.2.2.1, gr_alloc h.2.2.2 o⟩
theorem SetIn.store {w wr : World} {v r : Nat} {q q' : Nat → Bool} (h : SetIn w v r q wr) : SetIn w v r q' ((((wr.setCell ⟨v, 0, none⟩ (.int .u64 (setW q' 0 : Int))).setCell ⟨v, 1, none⟩ (.int .u64 (setW q' 1 : Int))).setCell ⟨v, 2, none⟩ (.int .u64 (setW q' 2 : Int))).setCell ⟨v, 3, none⟩ (.int .u64 (setW q' 3 : Int))) := by
  obtain ⟨h1, h2, h3, h4⟩ := h
  have hn := Ne.symm h3.1
  refine ⟨by simpa using (((h1.set_ 0 _).set_ 1 _).set_ 2 _).set_ 3 _, (((h2.far hn _).far hn _).far hn _).far hn _, h3, gr_set (gr_set (gr_set (gr_set h4 h3.2.1 _) h3.2.1 _) h3.2.1 _) h3.2.1 _⟩
theorem SetIn.boxed (w : World) (q : Nat → Bool) : SetIn w w.heap.size (w.heap.size + 1) q ((w.alloc (.cells #[Value.int .u64 (setW q 0 : Int), .int .u64 (setW q 1 : Int), .int .u64 (setW q 2 : Int), .int .u64 (setW q 3 : Int)] 64)).alloc (.cells #[.int .u64 0, .int .u64 0, .int .u64 0, .int .u64 0] 64)) := by
  refine ⟨(Blk.new _ _ _).alloc _, ?_, by omega, ((Below.refl _ _).alloc (Nat.le_refl _) _).alloc (by simp) _⟩
  simpa using Blk.new (w.alloc (.cells #[Value.int .u64 (setW q 0 : Int), .int .u64 (setW q 1 : Int), .int .u64 (setW q 2 : Int), .int .u64 (setW q 3 : Int)] 64)) 64 #[.int .u64 0, .int .u64 0, .int .u64 0, .int .u64 0]
theorem xor_word (x : Nat) (hx : x < 18446744073709551616) : bits .xor .u64 (if IntKind.u64.signed = true then -1 else IntKind.u64.max) (x : Int) = ((18446744073709551615 - x : Nat) : Int) := by
  have h1 : (BitVec.ofInt 64 (x : Int)).toNat = x := by
    rw [BitVec.ofInt_natCast, BitVec.toNat_ofNat]; exact Nat.mod_eq_of_lt (by omega)
  have e : (if IntKind.u64.signed = true then (-1 : Int) else IntKind.u64.max) = ((18446744073709551615 : Nat) : Int) := by decide
  rw [e]
  have h2 : BitVec.ofInt 64 ((18446744073709551615 : Nat) : Int) = BitVec.allOnes 64 := by decide
  show IntKind.u64.wrap ((BitVec.ofInt 64 ((18446744073709551615 : Nat) : Int) ^^^ BitVec.ofInt 64 (x : Int)).toNat : Int) = _
  rw [h2, BitVec.allOnes_xor, BitVec.toNat_not, h1, IntKind.wrap_u64]
  omega
theorem mix_not (p : Nat → Bool) (j : Nat) (hj : j < 4) : (setC (mixP j p (notP p))).setIfInBounds j (.int .u64 (bits .xor .u64 (if IntKind.u64.signed = true then -1 else IntKind.u64.max) (setW p j : Int))) = setC (mixP (j + 1) p (notP p)) := by
  rw [xor_word _ (u64_bound p j), ← setW_not]
  exact setC_mix j hj p _
set_option maxRecDepth 100000 in
set_option maxHeartbeats 1000000 in
theorem bnot (p : Nat → Bool) (w : World) :
    Calls Tryd.prog 55 #[Value.agg #[.int .u64 (setW p 0 : Int), .int .u64 (setW p 1 : Int), .int .u64 (setW p 2 : Int), .int .u64 (setW p 3 : Int)]] w fun e w' => e = .returned (Value.agg #[.int .u64 (setW (notP p) 0 : Int), .int .u64 (setW (notP p) 1 : Int), .int .u64 (setW (notP p) 2 : Int), .int .u64 (setW (notP p) 3 : Int)]) ∧ Below w.heap.size w w' := by
  go_enter Tryd.func55, Tryd.ntmps55
  go_wp2_with (fail)
  go_loopw [4] (fun i wr => ∃ k : Nat, k ≤ 4 ∧ i = .int .i64 (k : Int) ∧ SetIn w w.heap.size (w.heap.size + 1) (mixP k p (notP p)) wr) (fun i _ => 4 - (intOf i).toNat)
  case atStart => exact ⟨0, Nat.zero_le _, rfl, (SetIn.boxed w p).same (setC_mix0 _ _).symm⟩
  case round =>
    obtain ⟨k, hk, rfl, hat⟩ := hrel
    by_cases hlt : k < 4
    · have d0 := hat.1.cell' (i := k) (setC_get _ k hlt)
      rw [mixP_at] at d0
      have df := hat.1.frozen k
      have HAT := Lib.hid hat
      clear hat
      go_wp2
      exact ⟨⟨k + 1, by omega, by go_num, HAT.out.set_ (mix_not p k hlt)⟩, by simp [intOf]; omega⟩
    · obtain rfl : k = 4 := by omega
      have hat := hat.same (setC_mix4 _ _)
      have a0 := hat.1.cell' (i := 0) rfl
      have a1 := hat.1.cell' (i := 1) rfl
      have a2 := hat.1.cell' (i := 2) rfl
      have a3 := hat.1.cell' (i := 3) rfl
      have b0 := hat.2.1.cell' (i := 0) rfl
      have b1 := hat.2.1.cell' (i := 1) rfl
      have b2 := hat.2.1.cell' (i := 2) rfl
      have b3 := hat.2.1.cell' (i := 3) rfl
      have f0 := hat.2.1.frozen 0
      have f1 := hat.2.1.frozen 1
      have f2 := hat.2.1.frozen 2
      have f3 := hat.2.1.frozen 3
      have HB := Lib.hid hat.2.2.2
      have hsz := hat.2.1.lt
      clear hat
      go_wp2
      refine bodyPost_ret (v := Value.agg #[.int .u64 (setW (notP p) 0 : Int), .int .u64 (setW (notP p) 1 : Int), .int .u64 (setW (notP p) 2 : Int), .int .u64 (setW (notP p) 3 : Int)]) (by simp [results, Tryd.results55, go_sem, b0, b1, b2, b3]) rfl ⟨rfl, ?_⟩
      exact gr_set (gr_set (gr_set (gr_set HB.out (by simp) _) (by simp) _) (by simp) _) (by simp) _
theorem bnot0 (w : World) : Calls Tryd.prog 55 #[.agg #[.int .u64 0, .int .u64 0, .int .u64 0, .int .u64 0]] w fun e w' => e = .returned (Value.agg #[.int .u64 (setW fullP 0 : Int), .int .u64 (setW fullP 1 : Int), .int .u64 (setW fullP 2 : Int), .int .u64 (setW fullP 3 : Int)]) ∧ Below w.heap.size w w' := by
  have h := bnot noP w
  rw [setW_no, setW_no, setW_no, setW_no, notno] at h
  exact h
theorem SetIn.made {w W1 : World} (q : Nat → Bool) (h : Below (w.heap.size + 1) (w.alloc (.cells #[.int .u64 0, .int .u64 0, .int .u64 0, .int .u64 0] 64)) W1) : SetIn w W1.heap.size w.heap.size q (W1.alloc (.cells #[Value.int .u64 (setW q 0 : Int), .int .u64 (setW q 1 : Int), .int .u64 (setW q 2 : Int), .int .u64 (setW q 3 : Int)] 64)) := by
  have hz := h.size
  simp at hz
  refine ⟨Blk.new _ _ _, (((Blk.new w 64 #[.int .u64 0, .int .u64 0, .int .u64 0, .int .u64 0]).below h (by omega))).alloc _, by omega, ?_⟩
  exact ((((Below.refl w.heap.size w).alloc (Nat.le_refl _) _).trans (h.mono (by omega))).alloc (by omega) _)
set_option maxRecDepth 100000 in
set_option maxHeartbeats 1000000 in
theorem bcommon (A : Option Addr) (n cap : Nat) (Z : Nat → Nat → Bool) (hn : n ≤ 4398046511104) (w : World) (hA : Cells w A 4 n (setAt Z)) :
    Calls Tryd.prog 48 #[.slice A n cap] w fun e w' => e = .returned (Value.agg #[.int .u64 (setW (andL Z n) 0 : Int), .int .u64 (setW (andL Z n) 1 : Int), .int .u64 (setW (andL Z n) 2 : Int), .int .u64 (setW (andL Z n) 3 : Int)]) ∧ Below w.heap.size w w' := by
  have HA := Lib.hid hA
  clear hA
  go_enter Tryd.func48, Tryd.ntmps48
  go_wp2_with (fail)
  refine (bnot0 _).mono ?_
  rintro e W0 ⟨rfl, h0⟩
  have H0 := Lib.hid (SetIn.made fullP (by simpa using h0))
  have hV := h0.size
  simp at hV
  obtain ⟨V, eV⟩ : ∃ V, V = W0.heap.size := ⟨_, rfl⟩
  have EV := Lib.hid eV
  have hV' : w.heap.size + 1 ≤ V := by omega
  clear h0 hV eV
  go_wp2_with (fail)
  rw [← EV.out]
  go_loopw [11] (fun i wr => ∃ k : Nat, k ≤ n ∧ i = .int .i64 (k : Int) ∧ SetIn w V w.heap.size (andL Z k) wr) (fun i _ => n - (intOf i).toNat)
  case atStart => exact ⟨0, Nat.zero_le _, rfl, by rw [EV.out]; exact H0.out⟩
  case round =>
    obtain ⟨k, hk, rfl, hat⟩ := hrel
    by_cases hlt : k < n
    · obtain ⟨ab, ao, rfl, had, hcl⟩ := (HA.out.below hat.2.2.2) (by omega)
      have c0 : wr.cell? ⟨ab, ao + k * 4, none⟩ = some (.int .u64 (setW (Z k) 0 : Int)) := hcl k 0 hlt (by decide)
      have c1 : wr.cell? ⟨ab, ao + k * 4 + 1, none⟩ = some (.int .u64 (setW (Z k) 1 : Int)) := hcl k 1 hlt (by decide)
      have c2 : wr.cell? ⟨ab, ao + k * 4 + 2, none⟩ = some (.int .u64 (setW (Z k) 2 : Int)) := hcl k 2 hlt (by decide)
      have c3 : wr.cell? ⟨ab, ao + k * 4 + 3, none⟩ = some (.int .u64 (setW (Z k) 3 : Int)) := hcl k 3 hlt (by decide)
      clear hcl
      have hin : SetIn w V w.heap.size (mixP 0 (andL Z k) (andP (andL Z k) (Z k))) wr := hat.same (setC_mix0 _ _).symm
      have HIN := Lib.hid hin
      obtain ⟨X, hX⟩ : ∃ X, X = wr.heap.size := ⟨_, rfl⟩
      have HX := Lib.hid hX
      have hX1 : V < X := by have := hat.1.lt; omega
      clear hat hin hX
      go_wp2_with (fail)
      rw [← HX.out]
      go_loopw [15] (fun i wx => ∃ j : Nat, j ≤ 4 ∧ i = .int .i64 (j : Int) ∧ SetIn w V w.heap.size (mixP j (andL Z k) (andP (andL Z k) (Z k))) wx ∧ Blk wx X 64 #[Value.int .u64 (setW (Z k) 0 : Int), .int .u64 (setW (Z k) 1 : Int), .int .u64 (setW (Z k) 2 : Int), .int .u64 (setW (Z k) 3 : Int)]) (fun i _ => 4 - (intOf i).toNat)
      case atStart => exact ⟨0, by omega, rfl, HIN.out.alloc _, by rw [HX.out]; exact Blk.new _ _ _⟩
      case round =>
        obtain ⟨j, hj, rfl, hin, hblk⟩ := hrel
        by_cases hj4 : j < 4
        · have d0 := hin.1.cell' (i := j) (setC_get _ j hj4)
          rw [mixP_at] at d0
          have d1 := hblk.cell' (i := j) (setC_get _ j hj4)
          have df := hin.1.frozen j
          have H := Lib.hid (And.intro hin hblk)
          clear hin hblk
          go_wp2_with (fail)
          go_region
          all_goals go_wp2
          exact ⟨⟨j + 1, by omega, by go_num, (H.out.1.set_ (mix_and _ _ _ hj4)).drew, (H.out.2.far (by simp; omega) _).drew⟩, by simp [intOf]; omega⟩
        · obtain rfl : j = 4 := by omega
          have H := Lib.hid hin
          clear hin
          go_wp2_with (fail)
          exact ⟨⟨k + 1, by omega, by go_num, H.out.same (setC_mix4 _ _)⟩, by simp [intOf]; omega⟩
    · obtain rfl : k = n := by omega
      have a0 := hat.1.cell' (i := 0) rfl
      have a1 := hat.1.cell' (i := 1) rfl
      have a2 := hat.1.cell' (i := 2) rfl
      have a3 := hat.1.cell' (i := 3) rfl
      have b0 := hat.2.1.cell' (i := 0) rfl
      have b1 := hat.2.1.cell' (i := 1) rfl
      have b2 := hat.2.1.cell' (i := 2) rfl
      have b3 := hat.2.1.cell' (i := 3) rfl
      have f0 := hat.2.1.frozen 0
      have f1 := hat.2.1.frozen 1
      have f2 := hat.2.1.frozen 2
      have f3 := hat.2.1.frozen 3
      have HB := Lib.hid hat.2.2.2
      have hsz := hat.1.lt
      clear hat
      go_wp2
      refine bodyPost_ret (v := Value.agg #[.int .u64 (setW (andL Z k) 0 : Int), .int .u64 (setW (andL Z k) 1 : Int), .int .u64 (setW (andL Z k) 2 : Int), .int .u64 (setW (andL Z k) 3 : Int)]) (by simp [results, Tryd.results48, go_sem, b0, b1, b2, b3]) rfl ⟨rfl, ?_⟩
      exact gr_set (gr_set (gr_set (gr_set HB.out (by simp) _) (by simp) _) (by simp) _) (by simp) _
theorem bcommon2 (n cap : Nat) (p q : Nat → Bool) (W : World) (t : TypeId) (hn : Blk W n t #[Value.int .u64 (setW p 0 : Int), .int .u64 (setW p 1 : Int), .int .u64 (setW p 2 : Int), .int .u64 (setW p 3 : Int), Value.int .u64 (setW q 0 : Int), .int .u64 (setW q 1 : Int), .int .u64 (setW q 2 : Int), .int .u64 (setW q 3 : Int)]) :
    Calls Tryd.prog 48 #[.slice (some ⟨n, 0, none⟩) 2 cap] W fun e w' => e = .returned (Value.agg #[.int .u64 (setW (andP p q) 0 : Int), .int .u64 (setW (andP p q) 1 : Int), .int .u64 (setW (andP p q) 2 : Int), .int .u64 (setW (andP p q) 3 : Int)]) ∧ Below W.heap.size W w' := by
  refine (bcommon _ 2 cap (fun k => if k = 0 then p else q) (by decide) _ (fun _ => ⟨_, _, rfl, hn.lt, fun i j hi hj => ?_⟩)).mono ?_
  · have h := hn.cell (i * 4 + j)
    rw [Nat.zero_add, h]
    match i, j, hi, hj with
    | 0, 0, _, _ => rfl
    | 0, 1, _, _ => rfl
    | 0, 2, _, _ => rfl
    | 0, 3, _, _ => rfl
    | 1, 0, _, _ => rfl
    | 1, 1, _, _ => rfl
    | 1, 2, _, _ => rfl
    | 1, 3, _, _ => rfl
  rintro e w' ⟨rfl, hb⟩
  refine ⟨?_, hb⟩
  have : andL (fun k => if k = 0 then p else q) 2 = andP p q := by
    funext c; simp [andL, andP, fullP]
  rw [this]
end Go.Proofs.YtllhcfgddcjfkaaDoor
