/-
  BytesetFolds, walked: it returns true, whatever the input; condition: the library's table lies as it is laid.
-/
import Derived.Test.YtcfdadgijnmemaaDoorSetLL
import Derived.Test.YtcfdadgijnmemaaDoorMod
import Derived.Deep.CutRange
namespace Go.Proofs.YtcfdadgijnmemaaDoor
open Go.RowKit
set_option linter.unusedVariables false
set_option linter.unusedSimpArgs false

theorem xor32b (c : Nat) : (c ^^^ 32) ^^^ 32 = c := by rw [Nat.xor_assoc, Nat.xor_self, Nat.xor_zero]
theorem fold_fold (p : Nat → Bool) : foldP (foldP p) = foldP p := by
  funext c
  show ((p c || letP c && p (c ^^^ 32)) || letP c && (p (c ^^^ 32) || letP (c ^^^ 32) && p ((c ^^^ 32) ^^^ 32))) = (p c || letP c && p (c ^^^ 32))
  rw [xor32b]
  cases p c <;> cases letP c <;> cases p (c ^^^ 32) <;> simp
theorem fold_or (p q : Nat → Bool) : orP (foldP p) (foldP q) = foldP (orP p q) := by
  funext c
  show ((p c || letP c && p (c ^^^ 32)) || (q c || letP c && q (c ^^^ 32))) = ((p c || q c) || letP c && (p (c ^^^ 32) || q (c ^^^ 32)))
  cases p c <;> cases q c <;> cases letP c <;> cases p (c ^^^ 32) <;> cases q (c ^^^ 32) <;> rfl
theorem fold_self (p : Nat → Bool) : orP (foldP p) p = foldP p := by
  funext c
  show ((p c || letP c && p (c ^^^ 32)) || p c) = (p c || letP c && p (c ^^^ 32))
  cases p c <;> simp
set_option maxRecDepth 100000 in
theorem letter_up : ∀ b, b < 256 → 97 ≤ b → b ≤ 122 → letP b = true ∧ b ^^^ 32 = b - 32 := by decide
set_option maxRecDepth 100000 in
theorem letter_down : ∀ b, b < 256 → 65 ≤ b → b ≤ 90 → letP b = true ∧ b ^^^ 32 = b + 32 := by decide
theorem letter_no (b : Nat) (h1 : ¬ (97 ≤ b ∧ b ≤ 122)) (h2 : ¬ (65 ≤ b ∧ b ≤ 90)) : letP b = false := by
  unfold letP
  by_cases a : 97 ≤ b <;> by_cases c : b ≤ 122 <;> by_cases d : 65 ≤ b <;> by_cases e : b ≤ 90 <;> simp [a, c, d, e] <;> omega
theorem bfold2 (p : Nat → Bool) (w : World) (hT : TabOk w) (hw : 0 < w.heap.size) :
    Calls Tryd.prog 29 #[Value.agg #[.int .u64 (setW (foldP p) 0 : Int), .int .u64 (setW (foldP p) 1 : Int), .int .u64 (setW (foldP p) 2 : Int), .int .u64 (setW (foldP p) 3 : Int)]] w fun e W' => e = .returned (Value.agg #[.int .u64 (setW (foldP p) 0 : Int), .int .u64 (setW (foldP p) 1 : Int), .int .u64 (setW (foldP p) 2 : Int), .int .u64 (setW (foldP p) 3 : Int)]) ∧ Below w.heap.size w W' := by
  have h := bfold (foldP p) w hT hw
  rw [fold_fold] at h
  exact h
theorem buniFold (n : Nat) (p : Nat → Bool) (W : World) (hn : Blk W n 28 #[Value.int .u64 (setW (foldP p) 0 : Int), .int .u64 (setW (foldP p) 1 : Int), .int .u64 (setW (foldP p) 2 : Int), .int .u64 (setW (foldP p) 3 : Int), Value.int .u64 (setW p 0 : Int), .int .u64 (setW p 1 : Int), .int .u64 (setW p 2 : Int), .int .u64 (setW p 3 : Int)]) : Calls Tryd.prog 15 #[.slice (some ⟨n, 0, none⟩) 2 2] W fun e w' => e = .returned (Value.agg #[.int .u64 (setW (foldP p) 0 : Int), .int .u64 (setW (foldP p) 1 : Int), .int .u64 (setW (foldP p) 2 : Int), .int .u64 (setW (foldP p) 3 : Int)]) ∧ Below W.heap.size W w' := by
  have h := bunion2 n 2 (foldP p) p W _ hn
  rw [fold_self] at h
  exact h
theorem buniFolds (n : Nat) (p q : Nat → Bool) (W : World) (hn : Blk W n 28 #[Value.int .u64 (setW (foldP p) 0 : Int), .int .u64 (setW (foldP p) 1 : Int), .int .u64 (setW (foldP p) 2 : Int), .int .u64 (setW (foldP p) 3 : Int), Value.int .u64 (setW (foldP q) 0 : Int), .int .u64 (setW (foldP q) 1 : Int), .int .u64 (setW (foldP q) 2 : Int), .int .u64 (setW (foldP q) 3 : Int)]) : Calls Tryd.prog 15 #[.slice (some ⟨n, 0, none⟩) 2 2] W fun e w' => e = .returned (Value.agg #[.int .u64 (setW (foldP (orP p q)) 0 : Int), .int .u64 (setW (foldP (orP p q)) 1 : Int), .int .u64 (setW (foldP (orP p q)) 2 : Int), .int .u64 (setW (foldP (orP p q)) 3 : Int)]) ∧ Below W.heap.size W w' := by
  have h := bunion2 n 2 (foldP p) (foldP q) W _ hn
  rw [fold_or] at h
  exact h
theorem wrap_id (x : Int) (h1 : -9223372036854775808 ≤ x) (h2 : x ≤ 9223372036854775807) : IntKind.i64.wrap x = x := by
  rw [IntKind.wrap_i64]
  omega
theorem pick_low (p : Nat → Bool) (b : Nat) (hb : b < 256) (h1 : 97 ≤ b) (h2 : b ≤ 122) : ∃ o : Nat, (b : Int) - 32 = (o : Int) ∧ o < 256 ∧ (o = b ∨ o + 32 = b ∨ o = b + 32) ∧ foldP p b = (p b || p o) := by
  obtain ⟨l1, l2⟩ := letter_up b hb h1 h2
  refine ⟨b - 32, by omega, by omega, by omega, ?_⟩
  unfold foldP
  rw [l1, l2]
  rfl
theorem pick_up (p : Nat → Bool) (b : Nat) (hb : b < 256) (h1 : 65 ≤ b) (h2 : b ≤ 90) : ∃ o : Nat, (b : Int) + 32 = (o : Int) ∧ o < 256 ∧ (o = b ∨ o + 32 = b ∨ o = b + 32) ∧ foldP p b = (p b || p o) := by
  obtain ⟨l1, l2⟩ := letter_down b hb h1 h2
  refine ⟨b + 32, by omega, by omega, by omega, ?_⟩
  unfold foldP
  rw [l1, l2]
  rfl
theorem pick_no (p : Nat → Bool) (b : Nat) (hb : b < 256) (h1 : ¬ (97 ≤ b ∧ b ≤ 122)) (h2 : ¬ (65 ≤ b ∧ b ≤ 90)) : ∃ o : Nat, (b : Int) = (o : Int) ∧ o < 256 ∧ (o = b ∨ o + 32 = b ∨ o = b + 32) ∧ foldP p b = (p b || p o) := by
  refine ⟨b, rfl, hb, Or.inl rfl, ?_⟩
  unfold foldP
  rw [letter_no b h1 h2]
  simp
theorem bhasFold (p : Nat → Bool) (b o : Nat) (hb : b < 256) (h : foldP p b = (p b || p o)) (W : World) : Calls Tryd.prog 25 #[Value.agg #[.int .u64 (setW (foldP p) 0 : Int), .int .u64 (setW (foldP p) 1 : Int), .int .u64 (setW (foldP p) 2 : Int), .int .u64 (setW (foldP p) 3 : Int)], .int .u8 (b : Int)] W fun e w' => e = .returned (.bool (p b || p o)) ∧ Below W.heap.size W w' := by
  have k := bhasp (foldP p) b hb W
  rw [h] at k
  exact k
theorem modFold (o b : Nat) (ho : o < 256) (hb : b < 256) (h : o = b ∨ o + 32 = b ∨ o = b + 32) (W : World) : Calls Tryd.prog 40 #[.int .i64 ((o : Int) - b), .int .i64 32] W fun e w' => e = .returned (.int .i64 0) ∧ Below W.heap.size W w' := by
  have k := kmod ((o : Int) - b) 32 W (by omega) (by omega)
  have e : ((o : Int) - b) % 32 = 0 := by omega
  rw [e] at k
  exact k

set_option maxRecDepth 100000 in
set_option maxHeartbeats 8000000 in
theorem law_folds (p q : Nat → Bool) (b : Nat) (hb : b < 256) (w : World) (hT : TabOk w) (hw : 0 < w.heap.size) :
    Calls Tryd.prog 9 #[Value.agg #[.int .u64 (setW p 0 : Int), .int .u64 (setW p 1 : Int), .int .u64 (setW p 2 : Int), .int .u64 (setW p 3 : Int)], Value.agg #[.int .u64 (setW q 0 : Int), .int .u64 (setW q 1 : Int), .int .u64 (setW q 2 : Int), .int .u64 (setW q 3 : Int)], .int .u8 (b : Int)] w fun e w' => e = .returned (.bool true) ∧ Below w.heap.size w w' := by
  have HT := Lib.hid hT
  have TB : Hid (∀ W : World, Below w.heap.size w W → TabOk W ∧ 0 < W.heap.size) := Lib.hid (fun W h => ⟨HT.out.below h hw, Nat.lt_of_lt_of_le hw h.size⟩)
  have i0 := gr_alloc (gr_alloc (Below.refl w.heap.size w) (.cells #[Value.int .u64 (setW p 0 : Int), .int .u64 (setW p 1 : Int), .int .u64 (setW p 2 : Int), .int .u64 (setW p 3 : Int)] 28)) (.cells #[Value.int .u64 (setW q 0 : Int), .int .u64 (setW q 1 : Int), .int .u64 (setW q 2 : Int), .int .u64 (setW q 3 : Int)] 28)
  have f0 := (Blk.new w 28 #[Value.int .u64 (setW p 0 : Int), .int .u64 (setW p 1 : Int), .int .u64 (setW p 2 : Int), .int .u64 (setW p 3 : Int)]).alloc (.cells #[Value.int .u64 (setW q 0 : Int), .int .u64 (setW q 1 : Int), .int .u64 (setW q 2 : Int), .int .u64 (setW q 3 : Int)] 28)
  have g0 : Blk ((w.alloc (.cells #[Value.int .u64 (setW p 0 : Int), .int .u64 (setW p 1 : Int), .int .u64 (setW p 2 : Int), .int .u64 (setW p 3 : Int)] 28)).alloc (.cells #[Value.int .u64 (setW q 0 : Int), .int .u64 (setW q 1 : Int), .int .u64 (setW q 2 : Int), .int .u64 (setW q 3 : Int)] 28)) (w.heap.size + 1) 28 #[Value.int .u64 (setW q 0 : Int), .int .u64 (setW q 1 : Int), .int .u64 (setW q 2 : Int), .int .u64 (setW q 3 : Int)] := blk_at (by simp)
  have H0 := Lib.hid (And.intro f0 (And.intro g0 i0))
  clear f0 g0 i0 hT
  go_enter Tryd.func9, Tryd.ntmps9
  go_wp2_with (fail)
  refine (known _ (TB.out _ H0.out.2.2).1 (TB.out _ H0.out.2.2).2).mono ?_
  rintro e W1 ⟨rfl, h1⟩
  have f1 := H0.out.1.call h1
  have g1 := H0.out.2.1.call h1
  have i1 := gr_call H0.out.2.2 h1
  have a0 := f1.cell' (i := 0) rfl
  have a1 := f1.cell' (i := 1) rfl
  have a2 := f1.cell' (i := 2) rfl
  have a3 := f1.cell' (i := 3) rfl
  have z1 := f1.lt
  have H1 := Lib.hid (And.intro f1 (And.intro g1 i1))
  clear f1 g1 i1 h1
  go_wp2_with (fail)
  refine (bfold p _ (TB.out _ H1.out.2.2).1 (TB.out _ H1.out.2.2).2).mono ?_
  rintro e W2 ⟨rfl, h2⟩
  have x3 := (H1.out.1.call h2).alloc (.cells #[Value.int .u64 (setW (foldP p) 0 : Int), .int .u64 (setW (foldP p) 1 : Int), .int .u64 (setW (foldP p) 2 : Int), .int .u64 (setW (foldP p) 3 : Int)] 28)
  have x4 := (H1.out.2.1.call h2).alloc (.cells #[Value.int .u64 (setW (foldP p) 0 : Int), .int .u64 (setW (foldP p) 1 : Int), .int .u64 (setW (foldP p) 2 : Int), .int .u64 (setW (foldP p) 3 : Int)] 28)
  have x8 := Blk.new W2 28 #[Value.int .u64 (setW (foldP p) 0 : Int), .int .u64 (setW (foldP p) 1 : Int), .int .u64 (setW (foldP p) 2 : Int), .int .u64 (setW (foldP p) 3 : Int)]
  have ix := gr_alloc (gr_call H1.out.2.2 h2) (.cells #[Value.int .u64 (setW (foldP p) 0 : Int), .int .u64 (setW (foldP p) 1 : Int), .int .u64 (setW (foldP p) 2 : Int), .int .u64 (setW (foldP p) 3 : Int)] 28)
  have HX := Lib.hid (And.intro x3 (And.intro x4 (And.intro x8 ix)))
  clear x3 x4 x8 ix h2 H1 H0 a0 a1 a2 a3 z1
  go_upto_region 4 with (fail)
  go_cut [19] from 14 to 19 (fun t wx => (∃ c : Bool, t = .bool c ∧ (c = true ↔ (97 ≤ b ∧ b ≤ 122))) ∧ wx = W2.alloc (.cells #[Value.int .u64 (setW (foldP p) 0 : Int), .int .u64 (setW (foldP p) 1 : Int), .int .u64 (setW (foldP p) 2 : Int), .int .u64 (setW (foldP p) 3 : Int)] 28))
  case first =>
    go_wp2_with (fail)
    all_goals go_meet
    all_goals
      refine ⟨⟨_, rfl, ?_⟩, rfl⟩
      simp only [decide_eq_true_eq, Bool.false_eq_true, false_iff, not_and]
      omega
  case rest =>
  obtain ⟨⟨c1, rfl, hc1⟩, rfl⟩ := hcut
  go_upto_if 19 with (fail)
  go_cut [9] from 20 to 21 (fun o wx => (∃ o1 : Int, o = .int .u8 o1 ∧ ((97 ≤ b ∧ b ≤ 122) → o1 = (b : Int) - 32) ∧ (¬ (97 ≤ b ∧ b ≤ 122) → o1 = (b : Int))) ∧ wx = W2.alloc (.cells #[Value.int .u64 (setW (foldP p) 0 : Int), .int .u64 (setW (foldP p) 1 : Int), .int .u64 (setW (foldP p) 2 : Int), .int .u64 (setW (foldP p) 3 : Int)] 28))
  case first =>
    go_wp2_with (fail)
    all_goals go_meet
    all_goals
      refine ⟨⟨_, rfl, ?_, ?_⟩, rfl⟩ <;> intro h <;> simp_all <;> omega
  case rest =>
  obtain ⟨⟨o1, rfl, ho1, ho3⟩, rfl⟩ := hcut
  go_upto_region 6 with (fail)
  go_cut [27] from 22 to 27 (fun t wx => (∃ c : Bool, t = .bool c ∧ (c = true ↔ (65 ≤ b ∧ b ≤ 90))) ∧ wx = W2.alloc (.cells #[Value.int .u64 (setW (foldP p) 0 : Int), .int .u64 (setW (foldP p) 1 : Int), .int .u64 (setW (foldP p) 2 : Int), .int .u64 (setW (foldP p) 3 : Int)] 28))
  case first =>
    go_wp2_with (fail)
    all_goals go_meet
    all_goals
      refine ⟨⟨_, rfl, ?_⟩, rfl⟩
      simp only [decide_eq_true_eq, Bool.false_eq_true, false_iff, not_and]
      omega
  case rest =>
  obtain ⟨⟨c2, rfl, hc2⟩, rfl⟩ := hcut
  go_upto_if 27 with (fail)
  go_cut [9] from 28 to 29 (fun ov wx => (∃ o : Nat, ov = .int .u8 (o : Int) ∧ o < 256 ∧ (o = b ∨ o + 32 = b ∨ o = b + 32) ∧ foldP p b = (p b || p o)) ∧ wx = W2.alloc (.cells #[Value.int .u64 (setW (foldP p) 0 : Int), .int .u64 (setW (foldP p) 1 : Int), .int .u64 (setW (foldP p) 2 : Int), .int .u64 (setW (foldP p) 3 : Int)] 28))
  case first =>
    go_wp2_with (fail)
    all_goals go_meet
    all_goals
      refine ⟨?_, rfl⟩
      rename_i hc
      first
        | (have a2 := hc2.1 hc
           obtain ⟨o, e1, e2, e3, e4⟩ := pick_up p b hb a2.1 a2.2
           exact ⟨o, congrArg (Value.int .u8) (by omega), e2, e3, e4⟩)
        | (have a2 : ¬ (65 ≤ b ∧ b ≤ 90) := fun h => by rw [hc2.2 h] at hc; cases hc
           by_cases a1 : 97 ≤ b ∧ b ≤ 122
           · obtain ⟨o, e1, e2, e3, e4⟩ := pick_low p b hb a1.1 a1.2
             have := ho1 a1
             exact ⟨o, congrArg (Value.int .u8) (by omega), e2, e3, e4⟩
           · obtain ⟨o, e1, e2, e3, e4⟩ := pick_no p b hb a1 a2
             have := ho3 a1
             exact ⟨o, congrArg (Value.int .u8) (by omega), e2, e3, e4⟩)
  case rest =>
  obtain ⟨⟨o, rfl, ho2, hrel, hfo⟩, rfl⟩ := hcut
  go_wp2_with (fail)
  generalize hX : W2.alloc (.cells #[Value.int .u64 (setW (foldP p) 0 : Int), .int .u64 (setW (foldP p) 1 : Int), .int .u64 (setW (foldP p) 2 : Int), .int .u64 (setW (foldP p) 3 : Int)] 28) = X at HX ⊢
  generalize hn8 : W2.heap.size = n8 at HX ⊢
  clear hX hn8 hc1 hc2 ho1 ho3
  refine wp_region_late 52 [] (fun d x v => match d with
    | 32 => v = Value.agg #[.int .u64 (setW (foldP p) 0 : Int), .int .u64 (setW (foldP p) 1 : Int), .int .u64 (setW (foldP p) 2 : Int), .int .u64 (setW (foldP p) 3 : Int)]
    | 33 => v = Value.agg #[.int .u64 (setW (foldP p) 0 : Int), .int .u64 (setW (foldP p) 1 : Int), .int .u64 (setW (foldP p) 2 : Int), .int .u64 (setW (foldP p) 3 : Int)]
    | 34 => v = Value.agg #[.int .u64 (setW (foldP p) 0 : Int), .int .u64 (setW (foldP p) 1 : Int), .int .u64 (setW (foldP p) 2 : Int), .int .u64 (setW (foldP p) 3 : Int)]
    | 38 => v = Value.agg #[.int .u64 (setW (foldP p) 0 : Int), .int .u64 (setW (foldP p) 1 : Int), .int .u64 (setW (foldP p) 2 : Int), .int .u64 (setW (foldP p) 3 : Int)]
    | 39 => v = Value.agg #[.int .u64 (setW p 0 : Int), .int .u64 (setW p 1 : Int), .int .u64 (setW p 2 : Int), .int .u64 (setW p 3 : Int)]
    | 40 => ∃ n, v = .slice (some ⟨n, 0, none⟩) 2 2 ∧ Blk x n 28 #[Value.int .u64 (setW (foldP p) 0 : Int), .int .u64 (setW (foldP p) 1 : Int), .int .u64 (setW (foldP p) 2 : Int), .int .u64 (setW (foldP p) 3 : Int), Value.int .u64 (setW p 0 : Int), .int .u64 (setW p 1 : Int), .int .u64 (setW p 2 : Int), .int .u64 (setW p 3 : Int)]
    | 41 => v = Value.agg #[.int .u64 (setW (foldP p) 0 : Int), .int .u64 (setW (foldP p) 1 : Int), .int .u64 (setW (foldP p) 2 : Int), .int .u64 (setW (foldP p) 3 : Int)]
    | 42 => v = Value.agg #[.int .u64 (setW (foldP p) 0 : Int), .int .u64 (setW (foldP p) 1 : Int), .int .u64 (setW (foldP p) 2 : Int), .int .u64 (setW (foldP p) 3 : Int)]
    | 46 => v = Value.agg #[.int .u64 (setW p 0 : Int), .int .u64 (setW p 1 : Int), .int .u64 (setW p 2 : Int), .int .u64 (setW p 3 : Int)]
    | 47 => v = Value.agg #[.int .u64 (setW q 0 : Int), .int .u64 (setW q 1 : Int), .int .u64 (setW q 2 : Int), .int .u64 (setW q 3 : Int)]
    | 48 => ∃ n, v = .slice (some ⟨n, 0, none⟩) 2 2 ∧ Blk x n 28 #[Value.int .u64 (setW p 0 : Int), .int .u64 (setW p 1 : Int), .int .u64 (setW p 2 : Int), .int .u64 (setW p 3 : Int), Value.int .u64 (setW q 0 : Int), .int .u64 (setW q 1 : Int), .int .u64 (setW q 2 : Int), .int .u64 (setW q 3 : Int)]
    | 49 => v = Value.agg #[.int .u64 (setW (orP p q) 0 : Int), .int .u64 (setW (orP p q) 1 : Int), .int .u64 (setW (orP p q) 2 : Int), .int .u64 (setW (orP p q) 3 : Int)]
    | 50 => v = Value.agg #[.int .u64 (setW (foldP (orP p q)) 0 : Int), .int .u64 (setW (foldP (orP p q)) 1 : Int), .int .u64 (setW (foldP (orP p q)) 2 : Int), .int .u64 (setW (foldP (orP p q)) 3 : Int)]
    | 51 => v = Value.agg #[.int .u64 (setW (foldP p) 0 : Int), .int .u64 (setW (foldP p) 1 : Int), .int .u64 (setW (foldP p) 2 : Int), .int .u64 (setW (foldP p) 3 : Int)]
    | 52 => v = Value.agg #[.int .u64 (setW q 0 : Int), .int .u64 (setW q 1 : Int), .int .u64 (setW q 2 : Int), .int .u64 (setW q 3 : Int)]
    | 53 => v = Value.agg #[.int .u64 (setW (foldP q) 0 : Int), .int .u64 (setW (foldP q) 1 : Int), .int .u64 (setW (foldP q) 2 : Int), .int .u64 (setW (foldP q) 3 : Int)]
    | 54 => ∃ n, v = .slice (some ⟨n, 0, none⟩) 2 2 ∧ Blk x n 28 #[Value.int .u64 (setW (foldP p) 0 : Int), .int .u64 (setW (foldP p) 1 : Int), .int .u64 (setW (foldP p) 2 : Int), .int .u64 (setW (foldP p) 3 : Int), Value.int .u64 (setW (foldP q) 0 : Int), .int .u64 (setW (foldP q) 1 : Int), .int .u64 (setW (foldP q) 2 : Int), .int .u64 (setW (foldP q) 3 : Int)]
    | 55 => v = Value.agg #[.int .u64 (setW (foldP (orP p q)) 0 : Int), .int .u64 (setW (foldP (orP p q)) 1 : Int), .int .u64 (setW (foldP (orP p q)) 2 : Int), .int .u64 (setW (foldP (orP p q)) 3 : Int)]
    | 59 => v = Value.agg #[.int .u64 (setW (foldP p) 0 : Int), .int .u64 (setW (foldP p) 1 : Int), .int .u64 (setW (foldP p) 2 : Int), .int .u64 (setW (foldP p) 3 : Int)]
    | 60 => v = .int .u8 (b : Int)
    | 61 => v = .bool (p b || p o)
    | 62 => v = Value.agg #[.int .u64 (setW p 0 : Int), .int .u64 (setW p 1 : Int), .int .u64 (setW p 2 : Int), .int .u64 (setW p 3 : Int)]
    | 63 => v = .int .u8 (b : Int)
    | 64 => v = .bool (p b)
    | 65 => v = .bool (p b)
    | 66 => (p b = true ∧ v = undef) ∨ (p b = false ∧ v = Value.agg #[.int .u64 (setW p 0 : Int), .int .u64 (setW p 1 : Int), .int .u64 (setW p 2 : Int), .int .u64 (setW p 3 : Int)])
    | 67 => (p b = true ∧ v = undef) ∨ (p b = false ∧ v = .int .u8 (o : Int))
    | 68 => (p b = true ∧ v = undef) ∨ (p b = false ∧ v = .bool (p o))
    | 69 => v = .bool (p b || p o)
    | 73 => v = .int .u8 (o : Int)
    | 74 => v = .int .i64 (o : Int)
    | 75 => v = .int .u8 (b : Int)
    | 76 => v = .int .i64 (b : Int)
    | 77 => v = .int .i64 ((o : Int) - (b : Int))
    | 78 => v = .int .i64 0
    | _ => v = .bool true) (by kernel_rfl) (by kernel_rfl) (by kernel_rfl) (by kernel_rfl) (by decide) ?stable ?dist ?steps ?fin
  case stable =>
    intro d x x' v hB h
    revert h
    split <;> intro h <;> first | exact h | (obtain ⟨g, e1, e2⟩ := h; exact ⟨g, e1, e2.call hB⟩)
  case dist =>
    intro d hd
    cases hd
  case steps =>
    refine ⟨?_, ?_⟩
    · intro a w' hB hsz hbase hdeps K hK
      obtain ⟨ev, hev⟩ : ∃ ev, ev = a.eval := ⟨_, rfl⟩
      have hec : ∀ v, ev (.const v) = v := fun v => by rw [hev]; rfl
      have hef : ∀ f, ev (.func f) = .func (.func f) #[] #[] := fun f => by rw [hev]; rfl
      rw [← hev] at hbase hdeps
      have b7 : ev (.tmp 7) = .bool true := (hbase 7 (by kernel_rfl))
      rw [if_pos (by kernel_rfl)]
      left
      refine step_val (v := .bool true) (w' := w') ?_ (hK _ _ (Below.refl _ _) (by intro d hd; cases hd; exact rfl) (by intro d hd hm; cases hd; exact absurd hm (by decide)))
      rw [← hev]
      clear hK hdeps hbase hev
      simp only [execOp, hec, hef, b7]
      go_simp
    refine ⟨?_, ?_⟩
    · intro a w' hB hsz hbase hdeps K hK
      obtain ⟨ev, hev⟩ : ∃ ev, ev = a.eval := ⟨_, rfl⟩
      have hec : ∀ v, ev (.const v) = v := fun v => by rw [hev]; rfl
      have hef : ∀ f, ev (.func f) = .func (.func f) #[] #[] := fun f => by rw [hev]; rfl
      rw [← hev] at hbase hdeps
      have d30 : ev (.tmp 30) = .bool true := hdeps 30 (of_decide_eq_true (by kernel_rfl))
      rw [if_pos (by kernel_rfl)]
      left
      refine step_val (v := .bool true) (w' := w') ?_ (hK _ _ (Below.refl _ _) (by intro d hd; cases hd; exact rfl) (by intro d hd hm; cases hd; exact absurd hm (by decide)))
      rw [← hev]
      clear hK hdeps hbase hev
      simp only [execOp, hec, hef, d30]
      go_simp
    refine ⟨?_, ?_⟩
    · intro a w' hB hsz hbase hdeps K hK
      obtain ⟨ev, hev⟩ : ∃ ev, ev = a.eval := ⟨_, rfl⟩
      have hec : ∀ v, ev (.const v) = v := fun v => by rw [hev]; rfl
      have hef : ∀ f, ev (.func f) = .func (.func f) #[] #[] := fun f => by rw [hev]; rfl
      rw [← hev] at hbase hdeps
      have b8 : ev (.tmp 8) = (.pointer (some ⟨n8, 0, none⟩)) := (hbase 8 (by kernel_rfl))
      rw [if_pos (wanted_of (j := 1) (b := true) (d := 31) rfl (by kernel_rfl) (by rw [← hev]; exact hdeps 31 (of_decide_eq_true (by kernel_rfl))))]
      left
      have x3 := HX.out.1.call hB
      have x4 := HX.out.2.1.call hB
      have x8 := HX.out.2.2.1.call hB
      have z3 := x3.lt
      have z4 := x4.lt
      have z8 := x8.lt
      have u0 := x3.cell' (i := 0) rfl
      have u1 := x3.cell' (i := 1) rfl
      have u2 := x3.cell' (i := 2) rfl
      have u3 := x3.cell' (i := 3) rfl
      have s0 := x4.cell' (i := 0) rfl
      have s1 := x4.cell' (i := 1) rfl
      have s2 := x4.cell' (i := 2) rfl
      have s3 := x4.cell' (i := 3) rfl
      have t0 := x8.cell' (i := 0) rfl
      have t1 := x8.cell' (i := 1) rfl
      have t2 := x8.cell' (i := 2) rfl
      have t3 := x8.cell' (i := 3) rfl
      clear x3 x4 x8
      refine step_val (v := Value.agg #[.int .u64 (setW (foldP p) 0 : Int), .int .u64 (setW (foldP p) 1 : Int), .int .u64 (setW (foldP p) 2 : Int), .int .u64 (setW (foldP p) 3 : Int)]) (w' := w') ?_ (hK _ _ (Below.refl _ _) (by intro d hd; cases hd; exact rfl) (by intro d hd hm; cases hd; exact absurd hm (by decide)))
      rw [← hev]
      clear hK hdeps hbase hev
      simp only [execOp, hec, hef, b8]
      go_simp
    refine ⟨?_, ?_⟩
    · intro a w' hB hsz hbase hdeps K hK
      obtain ⟨ev, hev⟩ : ∃ ev, ev = a.eval := ⟨_, rfl⟩
      have hec : ∀ v, ev (.const v) = v := fun v => by rw [hev]; rfl
      have hef : ∀ f, ev (.func f) = .func (.func f) #[] #[] := fun f => by rw [hev]; rfl
      rw [← hev] at hbase hdeps
      have d32 : ev (.tmp 32) = Value.agg #[.int .u64 (setW (foldP p) 0 : Int), .int .u64 (setW (foldP p) 1 : Int), .int .u64 (setW (foldP p) 2 : Int), .int .u64 (setW (foldP p) 3 : Int)] := hdeps 32 (of_decide_eq_true (by kernel_rfl))
      rw [if_pos (wanted_of (j := 1) (b := true) (d := 31) rfl (by kernel_rfl) (by rw [← hev]; exact hdeps 31 (of_decide_eq_true (by kernel_rfl))))]
      left
      refine step_enter (w' := w') (f := 29) (args := #[Value.agg #[.int .u64 (setW (foldP p) 0 : Int), .int .u64 (setW (foldP p) 1 : Int), .int .u64 (setW (foldP p) 2 : Int), .int .u64 (setW (foldP p) 3 : Int)]]) ?_ ?_
      · rw [← hev]
        clear hK hdeps hbase hev
        simp only [execOp, hec, hef, d32]
        go_simp
      · refine (bfold2 p _ (TB.out _ (gr_call HX.out.2.2.2 hB)).1 (TB.out _ (gr_call HX.out.2.2.2 hB)).2).mono ?_
        rintro e W ⟨rfl, hb2⟩
        exact ⟨_, rfl, hK _ _ hb2 (by intro d hd; cases hd; exact rfl) (by intro d hd hm; cases hd; exact absurd hm (by decide))⟩
    refine ⟨?_, ?_⟩
    · intro a w' hB hsz hbase hdeps K hK
      obtain ⟨ev, hev⟩ : ∃ ev, ev = a.eval := ⟨_, rfl⟩
      have hec : ∀ v, ev (.const v) = v := fun v => by rw [hev]; rfl
      have hef : ∀ f, ev (.func f) = .func (.func f) #[] #[] := fun f => by rw [hev]; rfl
      rw [← hev] at hbase hdeps
      have b8 : ev (.tmp 8) = (.pointer (some ⟨n8, 0, none⟩)) := (hbase 8 (by kernel_rfl))
      rw [if_pos (wanted_of (j := 1) (b := true) (d := 31) rfl (by kernel_rfl) (by rw [← hev]; exact hdeps 31 (of_decide_eq_true (by kernel_rfl))))]
      left
      have x3 := HX.out.1.call hB
      have x4 := HX.out.2.1.call hB
      have x8 := HX.out.2.2.1.call hB
      have z3 := x3.lt
      have z4 := x4.lt
      have z8 := x8.lt
      have u0 := x3.cell' (i := 0) rfl
      have u1 := x3.cell' (i := 1) rfl
      have u2 := x3.cell' (i := 2) rfl
      have u3 := x3.cell' (i := 3) rfl
      have s0 := x4.cell' (i := 0) rfl
      have s1 := x4.cell' (i := 1) rfl
      have s2 := x4.cell' (i := 2) rfl
      have s3 := x4.cell' (i := 3) rfl
      have t0 := x8.cell' (i := 0) rfl
      have t1 := x8.cell' (i := 1) rfl
      have t2 := x8.cell' (i := 2) rfl
      have t3 := x8.cell' (i := 3) rfl
      clear x3 x4 x8
      refine step_val (v := Value.agg #[.int .u64 (setW (foldP p) 0 : Int), .int .u64 (setW (foldP p) 1 : Int), .int .u64 (setW (foldP p) 2 : Int), .int .u64 (setW (foldP p) 3 : Int)]) (w' := w') ?_ (hK _ _ (Below.refl _ _) (by intro d hd; cases hd; exact rfl) (by intro d hd hm; cases hd; exact absurd hm (by decide)))
      rw [← hev]
      clear hK hdeps hbase hev
      simp only [execOp, hec, hef, b8]
      go_simp
    refine ⟨?_, ?_⟩
    · intro a w' hB hsz hbase hdeps K hK
      obtain ⟨ev, hev⟩ : ∃ ev, ev = a.eval := ⟨_, rfl⟩
      have hec : ∀ v, ev (.const v) = v := fun v => by rw [hev]; rfl
      have hef : ∀ f, ev (.func f) = .func (.func f) #[] #[] := fun f => by rw [hev]; rfl
      rw [← hev] at hbase hdeps
      have d33 : ev (.tmp 33) = Value.agg #[.int .u64 (setW (foldP p) 0 : Int), .int .u64 (setW (foldP p) 1 : Int), .int .u64 (setW (foldP p) 2 : Int), .int .u64 (setW (foldP p) 3 : Int)] := hdeps 33 (of_decide_eq_true (by kernel_rfl))
      have d34 : ev (.tmp 34) = Value.agg #[.int .u64 (setW (foldP p) 0 : Int), .int .u64 (setW (foldP p) 1 : Int), .int .u64 (setW (foldP p) 2 : Int), .int .u64 (setW (foldP p) 3 : Int)] := hdeps 34 (of_decide_eq_true (by kernel_rfl))
      rw [if_pos (wanted_of (j := 1) (b := true) (d := 31) rfl (by kernel_rfl) (by rw [← hev]; exact hdeps 31 (of_decide_eq_true (by kernel_rfl))))]
      left
      have hq := fun W => eqSelf (foldP p) W
      refine step_val (v := .bool true) (w' := w') ?_ (hK _ _ (Below.refl _ _) (by intro d hd; cases hd; exact rfl) (by intro d hd hm; cases hd; exact absurd hm (by decide)))
      rw [← hev]
      clear hK hdeps hbase hev
      simp only [execOp, hec, hef, d33, d34]
      go_simp
    refine ⟨?_, ?_⟩
    · intro a w' hB hsz hbase hdeps K hK
      obtain ⟨ev, hev⟩ : ∃ ev, ev = a.eval := ⟨_, rfl⟩
      have hec : ∀ v, ev (.const v) = v := fun v => by rw [hev]; rfl
      have hef : ∀ f, ev (.func f) = .func (.func f) #[] #[] := fun f => by rw [hev]; rfl
      rw [← hev] at hbase hdeps
      have d31 : ev (.tmp 31) = .bool true := hdeps 31 (of_decide_eq_true (by kernel_rfl))
      have d35 : ev (.tmp 35) = .bool true := hdeps 35 (of_decide_eq_true (by kernel_rfl))
      rw [if_pos (by kernel_rfl)]
      left
      refine step_val (v := .bool true) (w' := w') ?_ (hK _ _ (Below.refl _ _) (by intro d hd; cases hd; exact rfl) (by intro d hd hm; cases hd; exact absurd hm (by decide)))
      rw [← hev]
      clear hK hdeps hbase hev
      simp only [execOp, hec, hef, d31, d35]
      go_simp
    refine ⟨?_, ?_⟩
    · intro a w' hB hsz hbase hdeps K hK
      obtain ⟨ev, hev⟩ : ∃ ev, ev = a.eval := ⟨_, rfl⟩
      have hec : ∀ v, ev (.const v) = v := fun v => by rw [hev]; rfl
      have hef : ∀ f, ev (.func f) = .func (.func f) #[] #[] := fun f => by rw [hev]; rfl
      rw [← hev] at hbase hdeps
      have d36 : ev (.tmp 36) = .bool true := hdeps 36 (of_decide_eq_true (by kernel_rfl))
      rw [if_pos (by kernel_rfl)]
      left
      refine step_val (v := .bool true) (w' := w') ?_ (hK _ _ (Below.refl _ _) (by intro d hd; cases hd; exact rfl) (by intro d hd hm; cases hd; exact absurd hm (by decide)))
      rw [← hev]
      clear hK hdeps hbase hev
      simp only [execOp, hec, hef, d36]
      go_simp
    refine ⟨?_, ?_⟩
    · intro a w' hB hsz hbase hdeps K hK
      obtain ⟨ev, hev⟩ : ∃ ev, ev = a.eval := ⟨_, rfl⟩
      have hec : ∀ v, ev (.const v) = v := fun v => by rw [hev]; rfl
      have hef : ∀ f, ev (.func f) = .func (.func f) #[] #[] := fun f => by rw [hev]; rfl
      rw [← hev] at hbase hdeps
      have b8 : ev (.tmp 8) = (.pointer (some ⟨n8, 0, none⟩)) := (hbase 8 (by kernel_rfl))
      rw [if_pos (wanted_of (j := 7) (b := true) (d := 37) rfl (by kernel_rfl) (by rw [← hev]; exact hdeps 37 (of_decide_eq_true (by kernel_rfl))))]
      left
      have x3 := HX.out.1.call hB
      have x4 := HX.out.2.1.call hB
      have x8 := HX.out.2.2.1.call hB
      have z3 := x3.lt
      have z4 := x4.lt
      have z8 := x8.lt
      have u0 := x3.cell' (i := 0) rfl
      have u1 := x3.cell' (i := 1) rfl
      have u2 := x3.cell' (i := 2) rfl
      have u3 := x3.cell' (i := 3) rfl
      have s0 := x4.cell' (i := 0) rfl
      have s1 := x4.cell' (i := 1) rfl
      have s2 := x4.cell' (i := 2) rfl
      have s3 := x4.cell' (i := 3) rfl
      have t0 := x8.cell' (i := 0) rfl
      have t1 := x8.cell' (i := 1) rfl
      have t2 := x8.cell' (i := 2) rfl
      have t3 := x8.cell' (i := 3) rfl
      clear x3 x4 x8
      refine step_val (v := Value.agg #[.int .u64 (setW (foldP p) 0 : Int), .int .u64 (setW (foldP p) 1 : Int), .int .u64 (setW (foldP p) 2 : Int), .int .u64 (setW (foldP p) 3 : Int)]) (w' := w') ?_ (hK _ _ (Below.refl _ _) (by intro d hd; cases hd; exact rfl) (by intro d hd hm; cases hd; exact absurd hm (by decide)))
      rw [← hev]
      clear hK hdeps hbase hev
      simp only [execOp, hec, hef, b8]
      go_simp
    refine ⟨?_, ?_⟩
    · intro a w' hB hsz hbase hdeps K hK
      obtain ⟨ev, hev⟩ : ∃ ev, ev = a.eval := ⟨_, rfl⟩
      have hec : ∀ v, ev (.const v) = v := fun v => by rw [hev]; rfl
      have hef : ∀ f, ev (.func f) = .func (.func f) #[] #[] := fun f => by rw [hev]; rfl
      rw [← hev] at hbase hdeps
      have b3 : ev (.tmp 3) = (.pointer (some ⟨w.heap.size, 0, none⟩)) := (hbase 3 (by kernel_rfl))
      rw [if_pos (wanted_of (j := 7) (b := true) (d := 37) rfl (by kernel_rfl) (by rw [← hev]; exact hdeps 37 (of_decide_eq_true (by kernel_rfl))))]
      left
      have x3 := HX.out.1.call hB
      have x4 := HX.out.2.1.call hB
      have x8 := HX.out.2.2.1.call hB
      have z3 := x3.lt
      have z4 := x4.lt
      have z8 := x8.lt
      have u0 := x3.cell' (i := 0) rfl
      have u1 := x3.cell' (i := 1) rfl
      have u2 := x3.cell' (i := 2) rfl
      have u3 := x3.cell' (i := 3) rfl
      have s0 := x4.cell' (i := 0) rfl
      have s1 := x4.cell' (i := 1) rfl
      have s2 := x4.cell' (i := 2) rfl
      have s3 := x4.cell' (i := 3) rfl
      have t0 := x8.cell' (i := 0) rfl
      have t1 := x8.cell' (i := 1) rfl
      have t2 := x8.cell' (i := 2) rfl
      have t3 := x8.cell' (i := 3) rfl
      clear x3 x4 x8
      refine step_val (v := Value.agg #[.int .u64 (setW p 0 : Int), .int .u64 (setW p 1 : Int), .int .u64 (setW p 2 : Int), .int .u64 (setW p 3 : Int)]) (w' := w') ?_ (hK _ _ (Below.refl _ _) (by intro d hd; cases hd; exact rfl) (by intro d hd hm; cases hd; exact absurd hm (by decide)))
      rw [← hev]
      clear hK hdeps hbase hev
      simp only [execOp, hec, hef, b3]
      go_simp
    refine ⟨?_, ?_⟩
    · intro a w' hB hsz hbase hdeps K hK
      obtain ⟨ev, hev⟩ : ∃ ev, ev = a.eval := ⟨_, rfl⟩
      have hec : ∀ v, ev (.const v) = v := fun v => by rw [hev]; rfl
      have hef : ∀ f, ev (.func f) = .func (.func f) #[] #[] := fun f => by rw [hev]; rfl
      rw [← hev] at hbase hdeps
      have d38 : ev (.tmp 38) = Value.agg #[.int .u64 (setW (foldP p) 0 : Int), .int .u64 (setW (foldP p) 1 : Int), .int .u64 (setW (foldP p) 2 : Int), .int .u64 (setW (foldP p) 3 : Int)] := hdeps 38 (of_decide_eq_true (by kernel_rfl))
      have d39 : ev (.tmp 39) = Value.agg #[.int .u64 (setW p 0 : Int), .int .u64 (setW p 1 : Int), .int .u64 (setW p 2 : Int), .int .u64 (setW p 3 : Int)] := hdeps 39 (of_decide_eq_true (by kernel_rfl))
      rw [if_pos (wanted_of (j := 7) (b := true) (d := 37) rfl (by kernel_rfl) (by rw [← hev]; exact hdeps 37 (of_decide_eq_true (by kernel_rfl))))]
      left
      refine step_val (v := .slice (some ⟨w'.heap.size, 0, none⟩) 2 2) (w' := w'.alloc (.cells #[Value.int .u64 (setW (foldP p) 0 : Int), .int .u64 (setW (foldP p) 1 : Int), .int .u64 (setW (foldP p) 2 : Int), .int .u64 (setW (foldP p) 3 : Int), Value.int .u64 (setW p 0 : Int), .int .u64 (setW p 1 : Int), .int .u64 (setW p 2 : Int), .int .u64 (setW p 3 : Int)] 28)) ?_ (hK _ _ (gr_alloc (Below.refl _ _) _) (by intro d hd; cases hd; exact ⟨_, rfl, Blk.new _ _ _⟩) (by intro d hd hm; cases hd; exact absurd hm (by decide)))
      rw [← hev]
      clear hK hdeps hbase hev
      simp only [execOp, hec, hef, d38, d39]
      go_simp
    refine ⟨?_, ?_⟩
    · intro a w' hB hsz hbase hdeps K hK
      obtain ⟨ev, hev⟩ : ∃ ev, ev = a.eval := ⟨_, rfl⟩
      have hec : ∀ v, ev (.const v) = v := fun v => by rw [hev]; rfl
      have hef : ∀ f, ev (.func f) = .func (.func f) #[] #[] := fun f => by rw [hev]; rfl
      rw [← hev] at hbase hdeps
      have d40 := hdeps 40 (of_decide_eq_true (by kernel_rfl))
      obtain ⟨n, en, hn⟩ := d40
      rw [if_pos (wanted_of (j := 7) (b := true) (d := 37) rfl (by kernel_rfl) (by rw [← hev]; exact hdeps 37 (of_decide_eq_true (by kernel_rfl))))]
      left
      refine step_enter (w' := w') (f := 15) (args := #[.slice (some ⟨n, 0, none⟩) 2 2]) ?_ ?_
      · rw [← hev]
        clear hK hdeps hbase hev
        simp only [execOp, hec, hef, en]
        go_simp
      · refine (buniFold n p _ hn).mono ?_
        rintro e W ⟨rfl, hb2⟩
        exact ⟨_, rfl, hK _ _ hb2 (by intro d hd; cases hd; exact rfl) (by intro d hd hm; cases hd; exact absurd hm (by decide))⟩
    refine ⟨?_, ?_⟩
    · intro a w' hB hsz hbase hdeps K hK
      obtain ⟨ev, hev⟩ : ∃ ev, ev = a.eval := ⟨_, rfl⟩
      have hec : ∀ v, ev (.const v) = v := fun v => by rw [hev]; rfl
      have hef : ∀ f, ev (.func f) = .func (.func f) #[] #[] := fun f => by rw [hev]; rfl
      rw [← hev] at hbase hdeps
      have b8 : ev (.tmp 8) = (.pointer (some ⟨n8, 0, none⟩)) := (hbase 8 (by kernel_rfl))
      rw [if_pos (wanted_of (j := 7) (b := true) (d := 37) rfl (by kernel_rfl) (by rw [← hev]; exact hdeps 37 (of_decide_eq_true (by kernel_rfl))))]
      left
      have x3 := HX.out.1.call hB
      have x4 := HX.out.2.1.call hB
      have x8 := HX.out.2.2.1.call hB
      have z3 := x3.lt
      have z4 := x4.lt
      have z8 := x8.lt
      have u0 := x3.cell' (i := 0) rfl
      have u1 := x3.cell' (i := 1) rfl
      have u2 := x3.cell' (i := 2) rfl
      have u3 := x3.cell' (i := 3) rfl
      have s0 := x4.cell' (i := 0) rfl
      have s1 := x4.cell' (i := 1) rfl
      have s2 := x4.cell' (i := 2) rfl
      have s3 := x4.cell' (i := 3) rfl
      have t0 := x8.cell' (i := 0) rfl
      have t1 := x8.cell' (i := 1) rfl
      have t2 := x8.cell' (i := 2) rfl
      have t3 := x8.cell' (i := 3) rfl
      clear x3 x4 x8
      refine step_val (v := Value.agg #[.int .u64 (setW (foldP p) 0 : Int), .int .u64 (setW (foldP p) 1 : Int), .int .u64 (setW (foldP p) 2 : Int), .int .u64 (setW (foldP p) 3 : Int)]) (w' := w') ?_ (hK _ _ (Below.refl _ _) (by intro d hd; cases hd; exact rfl) (by intro d hd hm; cases hd; exact absurd hm (by decide)))
      rw [← hev]
      clear hK hdeps hbase hev
      simp only [execOp, hec, hef, b8]
      go_simp
    refine ⟨?_, ?_⟩
    · intro a w' hB hsz hbase hdeps K hK
      obtain ⟨ev, hev⟩ : ∃ ev, ev = a.eval := ⟨_, rfl⟩
      have hec : ∀ v, ev (.const v) = v := fun v => by rw [hev]; rfl
      have hef : ∀ f, ev (.func f) = .func (.func f) #[] #[] := fun f => by rw [hev]; rfl
      rw [← hev] at hbase hdeps
      have d41 : ev (.tmp 41) = Value.agg #[.int .u64 (setW (foldP p) 0 : Int), .int .u64 (setW (foldP p) 1 : Int), .int .u64 (setW (foldP p) 2 : Int), .int .u64 (setW (foldP p) 3 : Int)] := hdeps 41 (of_decide_eq_true (by kernel_rfl))
      have d42 : ev (.tmp 42) = Value.agg #[.int .u64 (setW (foldP p) 0 : Int), .int .u64 (setW (foldP p) 1 : Int), .int .u64 (setW (foldP p) 2 : Int), .int .u64 (setW (foldP p) 3 : Int)] := hdeps 42 (of_decide_eq_true (by kernel_rfl))
      rw [if_pos (wanted_of (j := 7) (b := true) (d := 37) rfl (by kernel_rfl) (by rw [← hev]; exact hdeps 37 (of_decide_eq_true (by kernel_rfl))))]
      left
      have hq := fun W => eqSelf (foldP p) W
      refine step_val (v := .bool true) (w' := w') ?_ (hK _ _ (Below.refl _ _) (by intro d hd; cases hd; exact rfl) (by intro d hd hm; cases hd; exact absurd hm (by decide)))
      rw [← hev]
      clear hK hdeps hbase hev
      simp only [execOp, hec, hef, d41, d42]
      go_simp
    refine ⟨?_, ?_⟩
    · intro a w' hB hsz hbase hdeps K hK
      obtain ⟨ev, hev⟩ : ∃ ev, ev = a.eval := ⟨_, rfl⟩
      have hec : ∀ v, ev (.const v) = v := fun v => by rw [hev]; rfl
      have hef : ∀ f, ev (.func f) = .func (.func f) #[] #[] := fun f => by rw [hev]; rfl
      rw [← hev] at hbase hdeps
      have d37 : ev (.tmp 37) = .bool true := hdeps 37 (of_decide_eq_true (by kernel_rfl))
      have d43 : ev (.tmp 43) = .bool true := hdeps 43 (of_decide_eq_true (by kernel_rfl))
      rw [if_pos (by kernel_rfl)]
      left
      refine step_val (v := .bool true) (w' := w') ?_ (hK _ _ (Below.refl _ _) (by intro d hd; cases hd; exact rfl) (by intro d hd hm; cases hd; exact absurd hm (by decide)))
      rw [← hev]
      clear hK hdeps hbase hev
      simp only [execOp, hec, hef, d37, d43]
      go_simp
    refine ⟨?_, ?_⟩
    · intro a w' hB hsz hbase hdeps K hK
      obtain ⟨ev, hev⟩ : ∃ ev, ev = a.eval := ⟨_, rfl⟩
      have hec : ∀ v, ev (.const v) = v := fun v => by rw [hev]; rfl
      have hef : ∀ f, ev (.func f) = .func (.func f) #[] #[] := fun f => by rw [hev]; rfl
      rw [← hev] at hbase hdeps
      have d44 : ev (.tmp 44) = .bool true := hdeps 44 (of_decide_eq_true (by kernel_rfl))
      rw [if_pos (by kernel_rfl)]
      left
      refine step_val (v := .bool true) (w' := w') ?_ (hK _ _ (Below.refl _ _) (by intro d hd; cases hd; exact rfl) (by intro d hd hm; cases hd; exact absurd hm (by decide)))
      rw [← hev]
      clear hK hdeps hbase hev
      simp only [execOp, hec, hef, d44]
      go_simp
    refine ⟨?_, ?_⟩
    · intro a w' hB hsz hbase hdeps K hK
      obtain ⟨ev, hev⟩ : ∃ ev, ev = a.eval := ⟨_, rfl⟩
      have hec : ∀ v, ev (.const v) = v := fun v => by rw [hev]; rfl
      have hef : ∀ f, ev (.func f) = .func (.func f) #[] #[] := fun f => by rw [hev]; rfl
      rw [← hev] at hbase hdeps
      have b3 : ev (.tmp 3) = (.pointer (some ⟨w.heap.size, 0, none⟩)) := (hbase 3 (by kernel_rfl))
      rw [if_pos (wanted_of (j := 15) (b := true) (d := 45) rfl (by kernel_rfl) (by rw [← hev]; exact hdeps 45 (of_decide_eq_true (by kernel_rfl))))]
      left
      have x3 := HX.out.1.call hB
      have x4 := HX.out.2.1.call hB
      have x8 := HX.out.2.2.1.call hB
      have z3 := x3.lt
      have z4 := x4.lt
      have z8 := x8.lt
      have u0 := x3.cell' (i := 0) rfl
      have u1 := x3.cell' (i := 1) rfl
      have u2 := x3.cell' (i := 2) rfl
      have u3 := x3.cell' (i := 3) rfl
      have s0 := x4.cell' (i := 0) rfl
      have s1 := x4.cell' (i := 1) rfl
      have s2 := x4.cell' (i := 2) rfl
      have s3 := x4.cell' (i := 3) rfl
      have t0 := x8.cell' (i := 0) rfl
      have t1 := x8.cell' (i := 1) rfl
      have t2 := x8.cell' (i := 2) rfl
      have t3 := x8.cell' (i := 3) rfl
      clear x3 x4 x8
      refine step_val (v := Value.agg #[.int .u64 (setW p 0 : Int), .int .u64 (setW p 1 : Int), .int .u64 (setW p 2 : Int), .int .u64 (setW p 3 : Int)]) (w' := w') ?_ (hK _ _ (Below.refl _ _) (by intro d hd; cases hd; exact rfl) (by intro d hd hm; cases hd; exact absurd hm (by decide)))
      rw [← hev]
      clear hK hdeps hbase hev
      simp only [execOp, hec, hef, b3]
      go_simp
    refine ⟨?_, ?_⟩
    · intro a w' hB hsz hbase hdeps K hK
      obtain ⟨ev, hev⟩ : ∃ ev, ev = a.eval := ⟨_, rfl⟩
      have hec : ∀ v, ev (.const v) = v := fun v => by rw [hev]; rfl
      have hef : ∀ f, ev (.func f) = .func (.func f) #[] #[] := fun f => by rw [hev]; rfl
      rw [← hev] at hbase hdeps
      have b4 : ev (.tmp 4) = (.pointer (some ⟨w.heap.size + 1, 0, none⟩)) := (hbase 4 (by kernel_rfl))
      rw [if_pos (wanted_of (j := 15) (b := true) (d := 45) rfl (by kernel_rfl) (by rw [← hev]; exact hdeps 45 (of_decide_eq_true (by kernel_rfl))))]
      left
      have x3 := HX.out.1.call hB
      have x4 := HX.out.2.1.call hB
      have x8 := HX.out.2.2.1.call hB
      have z3 := x3.lt
      have z4 := x4.lt
      have z8 := x8.lt
      have u0 := x3.cell' (i := 0) rfl
      have u1 := x3.cell' (i := 1) rfl
      have u2 := x3.cell' (i := 2) rfl
      have u3 := x3.cell' (i := 3) rfl
      have s0 := x4.cell' (i := 0) rfl
      have s1 := x4.cell' (i := 1) rfl
      have s2 := x4.cell' (i := 2) rfl
      have s3 := x4.cell' (i := 3) rfl
      have t0 := x8.cell' (i := 0) rfl
      have t1 := x8.cell' (i := 1) rfl
      have t2 := x8.cell' (i := 2) rfl
      have t3 := x8.cell' (i := 3) rfl
      clear x3 x4 x8
      refine step_val (v := Value.agg #[.int .u64 (setW q 0 : Int), .int .u64 (setW q 1 : Int), .int .u64 (setW q 2 : Int), .int .u64 (setW q 3 : Int)]) (w' := w') ?_ (hK _ _ (Below.refl _ _) (by intro d hd; cases hd; exact rfl) (by intro d hd hm; cases hd; exact absurd hm (by decide)))
      rw [← hev]
      clear hK hdeps hbase hev
      simp only [execOp, hec, hef, b4]
      go_simp
    refine ⟨?_, ?_⟩
    · intro a w' hB hsz hbase hdeps K hK
      obtain ⟨ev, hev⟩ : ∃ ev, ev = a.eval := ⟨_, rfl⟩
      have hec : ∀ v, ev (.const v) = v := fun v => by rw [hev]; rfl
      have hef : ∀ f, ev (.func f) = .func (.func f) #[] #[] := fun f => by rw [hev]; rfl
      rw [← hev] at hbase hdeps
      have d46 : ev (.tmp 46) = Value.agg #[.int .u64 (setW p 0 : Int), .int .u64 (setW p 1 : Int), .int .u64 (setW p 2 : Int), .int .u64 (setW p 3 : Int)] := hdeps 46 (of_decide_eq_true (by kernel_rfl))
      have d47 : ev (.tmp 47) = Value.agg #[.int .u64 (setW q 0 : Int), .int .u64 (setW q 1 : Int), .int .u64 (setW q 2 : Int), .int .u64 (setW q 3 : Int)] := hdeps 47 (of_decide_eq_true (by kernel_rfl))
      rw [if_pos (wanted_of (j := 15) (b := true) (d := 45) rfl (by kernel_rfl) (by rw [← hev]; exact hdeps 45 (of_decide_eq_true (by kernel_rfl))))]
      left
      refine step_val (v := .slice (some ⟨w'.heap.size, 0, none⟩) 2 2) (w' := w'.alloc (.cells #[Value.int .u64 (setW p 0 : Int), .int .u64 (setW p 1 : Int), .int .u64 (setW p 2 : Int), .int .u64 (setW p 3 : Int), Value.int .u64 (setW q 0 : Int), .int .u64 (setW q 1 : Int), .int .u64 (setW q 2 : Int), .int .u64 (setW q 3 : Int)] 28)) ?_ (hK _ _ (gr_alloc (Below.refl _ _) _) (by intro d hd; cases hd; exact ⟨_, rfl, Blk.new _ _ _⟩) (by intro d hd hm; cases hd; exact absurd hm (by decide)))
      rw [← hev]
      clear hK hdeps hbase hev
      simp only [execOp, hec, hef, d46, d47]
      go_simp
    refine ⟨?_, ?_⟩
    · intro a w' hB hsz hbase hdeps K hK
      obtain ⟨ev, hev⟩ : ∃ ev, ev = a.eval := ⟨_, rfl⟩
      have hec : ∀ v, ev (.const v) = v := fun v => by rw [hev]; rfl
      have hef : ∀ f, ev (.func f) = .func (.func f) #[] #[] := fun f => by rw [hev]; rfl
      rw [← hev] at hbase hdeps
      have d48 := hdeps 48 (of_decide_eq_true (by kernel_rfl))
      obtain ⟨n, en, hn⟩ := d48
      rw [if_pos (wanted_of (j := 15) (b := true) (d := 45) rfl (by kernel_rfl) (by rw [← hev]; exact hdeps 45 (of_decide_eq_true (by kernel_rfl))))]
      left
      refine step_enter (w' := w') (f := 15) (args := #[.slice (some ⟨n, 0, none⟩) 2 2]) ?_ ?_
      · rw [← hev]
        clear hK hdeps hbase hev
        simp only [execOp, hec, hef, en]
        go_simp
      · refine (bunion2 n 2 p q _ _ hn).mono ?_
        rintro e W ⟨rfl, hb2⟩
        exact ⟨_, rfl, hK _ _ hb2 (by intro d hd; cases hd; exact rfl) (by intro d hd hm; cases hd; exact absurd hm (by decide))⟩
    refine ⟨?_, ?_⟩
    · intro a w' hB hsz hbase hdeps K hK
      obtain ⟨ev, hev⟩ : ∃ ev, ev = a.eval := ⟨_, rfl⟩
      have hec : ∀ v, ev (.const v) = v := fun v => by rw [hev]; rfl
      have hef : ∀ f, ev (.func f) = .func (.func f) #[] #[] := fun f => by rw [hev]; rfl
      rw [← hev] at hbase hdeps
      have d49 : ev (.tmp 49) = Value.agg #[.int .u64 (setW (orP p q) 0 : Int), .int .u64 (setW (orP p q) 1 : Int), .int .u64 (setW (orP p q) 2 : Int), .int .u64 (setW (orP p q) 3 : Int)] := hdeps 49 (of_decide_eq_true (by kernel_rfl))
      rw [if_pos (wanted_of (j := 15) (b := true) (d := 45) rfl (by kernel_rfl) (by rw [← hev]; exact hdeps 45 (of_decide_eq_true (by kernel_rfl))))]
      left
      refine step_enter (w' := w') (f := 29) (args := #[Value.agg #[.int .u64 (setW (orP p q) 0 : Int), .int .u64 (setW (orP p q) 1 : Int), .int .u64 (setW (orP p q) 2 : Int), .int .u64 (setW (orP p q) 3 : Int)]]) ?_ ?_
      · rw [← hev]
        clear hK hdeps hbase hev
        simp only [execOp, hec, hef, d49]
        go_simp
      · refine (bfold (orP p q) _ (TB.out _ (gr_call HX.out.2.2.2 hB)).1 (TB.out _ (gr_call HX.out.2.2.2 hB)).2).mono ?_
        rintro e W ⟨rfl, hb2⟩
        exact ⟨_, rfl, hK _ _ hb2 (by intro d hd; cases hd; exact rfl) (by intro d hd hm; cases hd; exact absurd hm (by decide))⟩
    refine ⟨?_, ?_⟩
    · intro a w' hB hsz hbase hdeps K hK
      obtain ⟨ev, hev⟩ : ∃ ev, ev = a.eval := ⟨_, rfl⟩
      have hec : ∀ v, ev (.const v) = v := fun v => by rw [hev]; rfl
      have hef : ∀ f, ev (.func f) = .func (.func f) #[] #[] := fun f => by rw [hev]; rfl
      rw [← hev] at hbase hdeps
      have b8 : ev (.tmp 8) = (.pointer (some ⟨n8, 0, none⟩)) := (hbase 8 (by kernel_rfl))
      rw [if_pos (wanted_of (j := 15) (b := true) (d := 45) rfl (by kernel_rfl) (by rw [← hev]; exact hdeps 45 (of_decide_eq_true (by kernel_rfl))))]
      left
      have x3 := HX.out.1.call hB
      have x4 := HX.out.2.1.call hB
      have x8 := HX.out.2.2.1.call hB
      have z3 := x3.lt
      have z4 := x4.lt
      have z8 := x8.lt
      have u0 := x3.cell' (i := 0) rfl
      have u1 := x3.cell' (i := 1) rfl
      have u2 := x3.cell' (i := 2) rfl
      have u3 := x3.cell' (i := 3) rfl
      have s0 := x4.cell' (i := 0) rfl
      have s1 := x4.cell' (i := 1) rfl
      have s2 := x4.cell' (i := 2) rfl
      have s3 := x4.cell' (i := 3) rfl
      have t0 := x8.cell' (i := 0) rfl
      have t1 := x8.cell' (i := 1) rfl
      have t2 := x8.cell' (i := 2) rfl
      have t3 := x8.cell' (i := 3) rfl
      clear x3 x4 x8
      refine step_val (v := Value.agg #[.int .u64 (setW (foldP p) 0 : Int), .int .u64 (setW (foldP p) 1 : Int), .int .u64 (setW (foldP p) 2 : Int), .int .u64 (setW (foldP p) 3 : Int)]) (w' := w') ?_ (hK _ _ (Below.refl _ _) (by intro d hd; cases hd; exact rfl) (by intro d hd hm; cases hd; exact absurd hm (by decide)))
      rw [← hev]
      clear hK hdeps hbase hev
      simp only [execOp, hec, hef, b8]
      go_simp
    refine ⟨?_, ?_⟩
    · intro a w' hB hsz hbase hdeps K hK
      obtain ⟨ev, hev⟩ : ∃ ev, ev = a.eval := ⟨_, rfl⟩
      have hec : ∀ v, ev (.const v) = v := fun v => by rw [hev]; rfl
      have hef : ∀ f, ev (.func f) = .func (.func f) #[] #[] := fun f => by rw [hev]; rfl
      rw [← hev] at hbase hdeps
      have b4 : ev (.tmp 4) = (.pointer (some ⟨w.heap.size + 1, 0, none⟩)) := (hbase 4 (by kernel_rfl))
      rw [if_pos (wanted_of (j := 15) (b := true) (d := 45) rfl (by kernel_rfl) (by rw [← hev]; exact hdeps 45 (of_decide_eq_true (by kernel_rfl))))]
      left
      have x3 := HX.out.1.call hB
      have x4 := HX.out.2.1.call hB
      have x8 := HX.out.2.2.1.call hB
      have z3 := x3.lt
      have z4 := x4.lt
      have z8 := x8.lt
      have u0 := x3.cell' (i := 0) rfl
      have u1 := x3.cell' (i := 1) rfl
      have u2 := x3.cell' (i := 2) rfl
      have u3 := x3.cell' (i := 3) rfl
      have s0 := x4.cell' (i := 0) rfl
      have s1 := x4.cell' (i := 1) rfl
      have s2 := x4.cell' (i := 2) rfl
      have s3 := x4.cell' (i := 3) rfl
      have t0 := x8.cell' (i := 0) rfl
      have t1 := x8.cell' (i := 1) rfl
      have t2 := x8.cell' (i := 2) rfl
      have t3 := x8.cell' (i := 3) rfl
      clear x3 x4 x8
      refine step_val (v := Value.agg #[.int .u64 (setW q 0 : Int), .int .u64 (setW q 1 : Int), .int .u64 (setW q 2 : Int), .int .u64 (setW q 3 : Int)]) (w' := w') ?_ (hK _ _ (Below.refl _ _) (by intro d hd; cases hd; exact rfl) (by intro d hd hm; cases hd; exact absurd hm (by decide)))
      rw [← hev]
      clear hK hdeps hbase hev
      simp only [execOp, hec, hef, b4]
      go_simp
    refine ⟨?_, ?_⟩
    · intro a w' hB hsz hbase hdeps K hK
      obtain ⟨ev, hev⟩ : ∃ ev, ev = a.eval := ⟨_, rfl⟩
      have hec : ∀ v, ev (.const v) = v := fun v => by rw [hev]; rfl
      have hef : ∀ f, ev (.func f) = .func (.func f) #[] #[] := fun f => by rw [hev]; rfl
      rw [← hev] at hbase hdeps
      have d52 : ev (.tmp 52) = Value.agg #[.int .u64 (setW q 0 : Int), .int .u64 (setW q 1 : Int), .int .u64 (setW q 2 : Int), .int .u64 (setW q 3 : Int)] := hdeps 52 (of_decide_eq_true (by kernel_rfl))
      rw [if_pos (wanted_of (j := 15) (b := true) (d := 45) rfl (by kernel_rfl) (by rw [← hev]; exact hdeps 45 (of_decide_eq_true (by kernel_rfl))))]
      left
      refine step_enter (w' := w') (f := 29) (args := #[Value.agg #[.int .u64 (setW q 0 : Int), .int .u64 (setW q 1 : Int), .int .u64 (setW q 2 : Int), .int .u64 (setW q 3 : Int)]]) ?_ ?_
      · rw [← hev]
        clear hK hdeps hbase hev
        simp only [execOp, hec, hef, d52]
        go_simp
      · refine (bfold q _ (TB.out _ (gr_call HX.out.2.2.2 hB)).1 (TB.out _ (gr_call HX.out.2.2.2 hB)).2).mono ?_
        rintro e W ⟨rfl, hb2⟩
        exact ⟨_, rfl, hK _ _ hb2 (by intro d hd; cases hd; exact rfl) (by intro d hd hm; cases hd; exact absurd hm (by decide))⟩
    refine ⟨?_, ?_⟩
    · intro a w' hB hsz hbase hdeps K hK
      obtain ⟨ev, hev⟩ : ∃ ev, ev = a.eval := ⟨_, rfl⟩
      have hec : ∀ v, ev (.const v) = v := fun v => by rw [hev]; rfl
      have hef : ∀ f, ev (.func f) = .func (.func f) #[] #[] := fun f => by rw [hev]; rfl
      rw [← hev] at hbase hdeps
      have d51 : ev (.tmp 51) = Value.agg #[.int .u64 (setW (foldP p) 0 : Int), .int .u64 (setW (foldP p) 1 : Int), .int .u64 (setW (foldP p) 2 : Int), .int .u64 (setW (foldP p) 3 : Int)] := hdeps 51 (of_decide_eq_true (by kernel_rfl))
      have d53 : ev (.tmp 53) = Value.agg #[.int .u64 (setW (foldP q) 0 : Int), .int .u64 (setW (foldP q) 1 : Int), .int .u64 (setW (foldP q) 2 : Int), .int .u64 (setW (foldP q) 3 : Int)] := hdeps 53 (of_decide_eq_true (by kernel_rfl))
      rw [if_pos (wanted_of (j := 15) (b := true) (d := 45) rfl (by kernel_rfl) (by rw [← hev]; exact hdeps 45 (of_decide_eq_true (by kernel_rfl))))]
      left
      refine step_val (v := .slice (some ⟨w'.heap.size, 0, none⟩) 2 2) (w' := w'.alloc (.cells #[Value.int .u64 (setW (foldP p) 0 : Int), .int .u64 (setW (foldP p) 1 : Int), .int .u64 (setW (foldP p) 2 : Int), .int .u64 (setW (foldP p) 3 : Int), Value.int .u64 (setW (foldP q) 0 : Int), .int .u64 (setW (foldP q) 1 : Int), .int .u64 (setW (foldP q) 2 : Int), .int .u64 (setW (foldP q) 3 : Int)] 28)) ?_ (hK _ _ (gr_alloc (Below.refl _ _) _) (by intro d hd; cases hd; exact ⟨_, rfl, Blk.new _ _ _⟩) (by intro d hd hm; cases hd; exact absurd hm (by decide)))
      rw [← hev]
      clear hK hdeps hbase hev
      simp only [execOp, hec, hef, d51, d53]
      go_simp
    refine ⟨?_, ?_⟩
    · intro a w' hB hsz hbase hdeps K hK
      obtain ⟨ev, hev⟩ : ∃ ev, ev = a.eval := ⟨_, rfl⟩
      have hec : ∀ v, ev (.const v) = v := fun v => by rw [hev]; rfl
      have hef : ∀ f, ev (.func f) = .func (.func f) #[] #[] := fun f => by rw [hev]; rfl
      rw [← hev] at hbase hdeps
      have d54 := hdeps 54 (of_decide_eq_true (by kernel_rfl))
      obtain ⟨n, en, hn⟩ := d54
      rw [if_pos (wanted_of (j := 15) (b := true) (d := 45) rfl (by kernel_rfl) (by rw [← hev]; exact hdeps 45 (of_decide_eq_true (by kernel_rfl))))]
      left
      refine step_enter (w' := w') (f := 15) (args := #[.slice (some ⟨n, 0, none⟩) 2 2]) ?_ ?_
      · rw [← hev]
        clear hK hdeps hbase hev
        simp only [execOp, hec, hef, en]
        go_simp
      · refine (buniFolds n p q _ hn).mono ?_
        rintro e W ⟨rfl, hb2⟩
        exact ⟨_, rfl, hK _ _ hb2 (by intro d hd; cases hd; exact rfl) (by intro d hd hm; cases hd; exact absurd hm (by decide))⟩
    refine ⟨?_, ?_⟩
    · intro a w' hB hsz hbase hdeps K hK
      obtain ⟨ev, hev⟩ : ∃ ev, ev = a.eval := ⟨_, rfl⟩
      have hec : ∀ v, ev (.const v) = v := fun v => by rw [hev]; rfl
      have hef : ∀ f, ev (.func f) = .func (.func f) #[] #[] := fun f => by rw [hev]; rfl
      rw [← hev] at hbase hdeps
      have d50 : ev (.tmp 50) = Value.agg #[.int .u64 (setW (foldP (orP p q)) 0 : Int), .int .u64 (setW (foldP (orP p q)) 1 : Int), .int .u64 (setW (foldP (orP p q)) 2 : Int), .int .u64 (setW (foldP (orP p q)) 3 : Int)] := hdeps 50 (of_decide_eq_true (by kernel_rfl))
      have d55 : ev (.tmp 55) = Value.agg #[.int .u64 (setW (foldP (orP p q)) 0 : Int), .int .u64 (setW (foldP (orP p q)) 1 : Int), .int .u64 (setW (foldP (orP p q)) 2 : Int), .int .u64 (setW (foldP (orP p q)) 3 : Int)] := hdeps 55 (of_decide_eq_true (by kernel_rfl))
      rw [if_pos (wanted_of (j := 15) (b := true) (d := 45) rfl (by kernel_rfl) (by rw [← hev]; exact hdeps 45 (of_decide_eq_true (by kernel_rfl))))]
      left
      have hq := fun W => eqSelf (foldP (orP p q)) W
      refine step_val (v := .bool true) (w' := w') ?_ (hK _ _ (Below.refl _ _) (by intro d hd; cases hd; exact rfl) (by intro d hd hm; cases hd; exact absurd hm (by decide)))
      rw [← hev]
      clear hK hdeps hbase hev
      simp only [execOp, hec, hef, d50, d55]
      go_simp
    refine ⟨?_, ?_⟩
    · intro a w' hB hsz hbase hdeps K hK
      obtain ⟨ev, hev⟩ : ∃ ev, ev = a.eval := ⟨_, rfl⟩
      have hec : ∀ v, ev (.const v) = v := fun v => by rw [hev]; rfl
      have hef : ∀ f, ev (.func f) = .func (.func f) #[] #[] := fun f => by rw [hev]; rfl
      rw [← hev] at hbase hdeps
      have d45 : ev (.tmp 45) = .bool true := hdeps 45 (of_decide_eq_true (by kernel_rfl))
      have d56 : ev (.tmp 56) = .bool true := hdeps 56 (of_decide_eq_true (by kernel_rfl))
      rw [if_pos (by kernel_rfl)]
      left
      refine step_val (v := .bool true) (w' := w') ?_ (hK _ _ (Below.refl _ _) (by intro d hd; cases hd; exact rfl) (by intro d hd hm; cases hd; exact absurd hm (by decide)))
      rw [← hev]
      clear hK hdeps hbase hev
      simp only [execOp, hec, hef, d45, d56]
      go_simp
    refine ⟨?_, ?_⟩
    · intro a w' hB hsz hbase hdeps K hK
      obtain ⟨ev, hev⟩ : ∃ ev, ev = a.eval := ⟨_, rfl⟩
      have hec : ∀ v, ev (.const v) = v := fun v => by rw [hev]; rfl
      have hef : ∀ f, ev (.func f) = .func (.func f) #[] #[] := fun f => by rw [hev]; rfl
      rw [← hev] at hbase hdeps
      have d57 : ev (.tmp 57) = .bool true := hdeps 57 (of_decide_eq_true (by kernel_rfl))
      rw [if_pos (by kernel_rfl)]
      left
      refine step_val (v := .bool true) (w' := w') ?_ (hK _ _ (Below.refl _ _) (by intro d hd; cases hd; exact rfl) (by intro d hd hm; cases hd; exact absurd hm (by decide)))
      rw [← hev]
      clear hK hdeps hbase hev
      simp only [execOp, hec, hef, d57]
      go_simp
    refine ⟨?_, ?_⟩
    · intro a w' hB hsz hbase hdeps K hK
      obtain ⟨ev, hev⟩ : ∃ ev, ev = a.eval := ⟨_, rfl⟩
      have hec : ∀ v, ev (.const v) = v := fun v => by rw [hev]; rfl
      have hef : ∀ f, ev (.func f) = .func (.func f) #[] #[] := fun f => by rw [hev]; rfl
      rw [← hev] at hbase hdeps
      have b8 : ev (.tmp 8) = (.pointer (some ⟨n8, 0, none⟩)) := (hbase 8 (by kernel_rfl))
      rw [if_pos (wanted_of (j := 28) (b := true) (d := 58) rfl (by kernel_rfl) (by rw [← hev]; exact hdeps 58 (of_decide_eq_true (by kernel_rfl))))]
      left
      have x3 := HX.out.1.call hB
      have x4 := HX.out.2.1.call hB
      have x8 := HX.out.2.2.1.call hB
      have z3 := x3.lt
      have z4 := x4.lt
      have z8 := x8.lt
      have u0 := x3.cell' (i := 0) rfl
      have u1 := x3.cell' (i := 1) rfl
      have u2 := x3.cell' (i := 2) rfl
      have u3 := x3.cell' (i := 3) rfl
      have s0 := x4.cell' (i := 0) rfl
      have s1 := x4.cell' (i := 1) rfl
      have s2 := x4.cell' (i := 2) rfl
      have s3 := x4.cell' (i := 3) rfl
      have t0 := x8.cell' (i := 0) rfl
      have t1 := x8.cell' (i := 1) rfl
      have t2 := x8.cell' (i := 2) rfl
      have t3 := x8.cell' (i := 3) rfl
      clear x3 x4 x8
      refine step_val (v := Value.agg #[.int .u64 (setW (foldP p) 0 : Int), .int .u64 (setW (foldP p) 1 : Int), .int .u64 (setW (foldP p) 2 : Int), .int .u64 (setW (foldP p) 3 : Int)]) (w' := w') ?_ (hK _ _ (Below.refl _ _) (by intro d hd; cases hd; exact rfl) (by intro d hd hm; cases hd; exact absurd hm (by decide)))
      rw [← hev]
      clear hK hdeps hbase hev
      simp only [execOp, hec, hef, b8]
      go_simp
    refine ⟨?_, ?_⟩
    · intro a w' hB hsz hbase hdeps K hK
      obtain ⟨ev, hev⟩ : ∃ ev, ev = a.eval := ⟨_, rfl⟩
      have hec : ∀ v, ev (.const v) = v := fun v => by rw [hev]; rfl
      have hef : ∀ f, ev (.func f) = .func (.func f) #[] #[] := fun f => by rw [hev]; rfl
      rw [← hev] at hbase hdeps
      have b2 : ev (.tmp 2) = .int .u8 (b : Int) := (hbase 2 (by kernel_rfl))
      rw [if_pos (wanted_of (j := 28) (b := true) (d := 58) rfl (by kernel_rfl) (by rw [← hev]; exact hdeps 58 (of_decide_eq_true (by kernel_rfl))))]
      left
      refine step_val (v := .int .u8 (b : Int)) (w' := w') ?_ (hK _ _ (Below.refl _ _) (by intro d hd; cases hd; exact rfl) (by intro d hd hm; cases hd; exact absurd hm (by decide)))
      rw [← hev]
      clear hK hdeps hbase hev
      simp only [execOp, hec, hef, b2]
      go_simp
    refine ⟨?_, ?_⟩
    · intro a w' hB hsz hbase hdeps K hK
      obtain ⟨ev, hev⟩ : ∃ ev, ev = a.eval := ⟨_, rfl⟩
      have hec : ∀ v, ev (.const v) = v := fun v => by rw [hev]; rfl
      have hef : ∀ f, ev (.func f) = .func (.func f) #[] #[] := fun f => by rw [hev]; rfl
      rw [← hev] at hbase hdeps
      have d59 : ev (.tmp 59) = Value.agg #[.int .u64 (setW (foldP p) 0 : Int), .int .u64 (setW (foldP p) 1 : Int), .int .u64 (setW (foldP p) 2 : Int), .int .u64 (setW (foldP p) 3 : Int)] := hdeps 59 (of_decide_eq_true (by kernel_rfl))
      have d60 : ev (.tmp 60) = .int .u8 (b : Int) := hdeps 60 (of_decide_eq_true (by kernel_rfl))
      rw [if_pos (wanted_of (j := 28) (b := true) (d := 58) rfl (by kernel_rfl) (by rw [← hev]; exact hdeps 58 (of_decide_eq_true (by kernel_rfl))))]
      left
      refine step_enter (w' := w') (f := 25) (args := #[Value.agg #[.int .u64 (setW (foldP p) 0 : Int), .int .u64 (setW (foldP p) 1 : Int), .int .u64 (setW (foldP p) 2 : Int), .int .u64 (setW (foldP p) 3 : Int)], .int .u8 (b : Int)]) ?_ ?_
      · rw [← hev]
        clear hK hdeps hbase hev
        simp only [execOp, hec, hef, d59, d60]
        go_simp
      · refine (bhasFold p b o hb hfo _).mono ?_
        rintro e W ⟨rfl, hb2⟩
        exact ⟨_, rfl, hK _ _ hb2 (by intro d hd; cases hd; exact rfl) (by intro d hd hm; cases hd; exact absurd hm (by decide))⟩
    refine ⟨?_, ?_⟩
    · intro a w' hB hsz hbase hdeps K hK
      obtain ⟨ev, hev⟩ : ∃ ev, ev = a.eval := ⟨_, rfl⟩
      have hec : ∀ v, ev (.const v) = v := fun v => by rw [hev]; rfl
      have hef : ∀ f, ev (.func f) = .func (.func f) #[] #[] := fun f => by rw [hev]; rfl
      rw [← hev] at hbase hdeps
      have b3 : ev (.tmp 3) = (.pointer (some ⟨w.heap.size, 0, none⟩)) := (hbase 3 (by kernel_rfl))
      rw [if_pos (wanted_of (j := 28) (b := true) (d := 58) rfl (by kernel_rfl) (by rw [← hev]; exact hdeps 58 (of_decide_eq_true (by kernel_rfl))))]
      left
      have x3 := HX.out.1.call hB
      have x4 := HX.out.2.1.call hB
      have x8 := HX.out.2.2.1.call hB
      have z3 := x3.lt
      have z4 := x4.lt
      have z8 := x8.lt
      have u0 := x3.cell' (i := 0) rfl
      have u1 := x3.cell' (i := 1) rfl
      have u2 := x3.cell' (i := 2) rfl
      have u3 := x3.cell' (i := 3) rfl
      have s0 := x4.cell' (i := 0) rfl
      have s1 := x4.cell' (i := 1) rfl
      have s2 := x4.cell' (i := 2) rfl
      have s3 := x4.cell' (i := 3) rfl
      have t0 := x8.cell' (i := 0) rfl
      have t1 := x8.cell' (i := 1) rfl
      have t2 := x8.cell' (i := 2) rfl
      have t3 := x8.cell' (i := 3) rfl
      clear x3 x4 x8
      refine step_val (v := Value.agg #[.int .u64 (setW p 0 : Int), .int .u64 (setW p 1 : Int), .int .u64 (setW p 2 : Int), .int .u64 (setW p 3 : Int)]) (w' := w') ?_ (hK _ _ (Below.refl _ _) (by intro d hd; cases hd; exact rfl) (by intro d hd hm; cases hd; exact absurd hm (by decide)))
      rw [← hev]
      clear hK hdeps hbase hev
      simp only [execOp, hec, hef, b3]
      go_simp
    refine ⟨?_, ?_⟩
    · intro a w' hB hsz hbase hdeps K hK
      obtain ⟨ev, hev⟩ : ∃ ev, ev = a.eval := ⟨_, rfl⟩
      have hec : ∀ v, ev (.const v) = v := fun v => by rw [hev]; rfl
      have hef : ∀ f, ev (.func f) = .func (.func f) #[] #[] := fun f => by rw [hev]; rfl
      rw [← hev] at hbase hdeps
      have b2 : ev (.tmp 2) = .int .u8 (b : Int) := (hbase 2 (by kernel_rfl))
      rw [if_pos (wanted_of (j := 28) (b := true) (d := 58) rfl (by kernel_rfl) (by rw [← hev]; exact hdeps 58 (of_decide_eq_true (by kernel_rfl))))]
      left
      refine step_val (v := .int .u8 (b : Int)) (w' := w') ?_ (hK _ _ (Below.refl _ _) (by intro d hd; cases hd; exact rfl) (by intro d hd hm; cases hd; exact absurd hm (by decide)))
      rw [← hev]
      clear hK hdeps hbase hev
      simp only [execOp, hec, hef, b2]
      go_simp
    refine ⟨?_, ?_⟩
    · intro a w' hB hsz hbase hdeps K hK
      obtain ⟨ev, hev⟩ : ∃ ev, ev = a.eval := ⟨_, rfl⟩
      have hec : ∀ v, ev (.const v) = v := fun v => by rw [hev]; rfl
      have hef : ∀ f, ev (.func f) = .func (.func f) #[] #[] := fun f => by rw [hev]; rfl
      rw [← hev] at hbase hdeps
      have d62 : ev (.tmp 62) = Value.agg #[.int .u64 (setW p 0 : Int), .int .u64 (setW p 1 : Int), .int .u64 (setW p 2 : Int), .int .u64 (setW p 3 : Int)] := hdeps 62 (of_decide_eq_true (by kernel_rfl))
      have d63 : ev (.tmp 63) = .int .u8 (b : Int) := hdeps 63 (of_decide_eq_true (by kernel_rfl))
      rw [if_pos (wanted_of (j := 28) (b := true) (d := 58) rfl (by kernel_rfl) (by rw [← hev]; exact hdeps 58 (of_decide_eq_true (by kernel_rfl))))]
      left
      refine step_enter (w' := w') (f := 25) (args := #[Value.agg #[.int .u64 (setW p 0 : Int), .int .u64 (setW p 1 : Int), .int .u64 (setW p 2 : Int), .int .u64 (setW p 3 : Int)], .int .u8 (b : Int)]) ?_ ?_
      · rw [← hev]
        clear hK hdeps hbase hev
        simp only [execOp, hec, hef, d62, d63]
        go_simp
      · refine (bhasp p b hb _).mono ?_
        rintro e W ⟨rfl, hb2⟩
        exact ⟨_, rfl, hK _ _ hb2 (by intro d hd; cases hd; exact rfl) (by intro d hd hm; cases hd; exact absurd hm (by decide))⟩
    refine ⟨?_, ?_⟩
    · intro a w' hB hsz hbase hdeps K hK
      obtain ⟨ev, hev⟩ : ∃ ev, ev = a.eval := ⟨_, rfl⟩
      have hec : ∀ v, ev (.const v) = v := fun v => by rw [hev]; rfl
      have hef : ∀ f, ev (.func f) = .func (.func f) #[] #[] := fun f => by rw [hev]; rfl
      rw [← hev] at hbase hdeps
      have d64 : ev (.tmp 64) = .bool (p b) := hdeps 64 (of_decide_eq_true (by kernel_rfl))
      rw [if_pos (wanted_of (j := 28) (b := true) (d := 58) rfl (by kernel_rfl) (by rw [← hev]; exact hdeps 58 (of_decide_eq_true (by kernel_rfl))))]
      left
      refine step_val (v := .bool (p b)) (w' := w') ?_ (hK _ _ (Below.refl _ _) (by intro d hd; cases hd; exact rfl) (by intro d hd hm; cases hd; exact absurd hm (by decide)))
      rw [← hev]
      clear hK hdeps hbase hev
      simp only [execOp, hec, hef, d64]
      go_simp
    refine ⟨?_, ?_⟩
    · intro a w' hB hsz hbase hdeps K hK
      obtain ⟨ev, hev⟩ : ∃ ev, ev = a.eval := ⟨_, rfl⟩
      have hec : ∀ v, ev (.const v) = v := fun v => by rw [hev]; rfl
      have hef : ∀ f, ev (.func f) = .func (.func f) #[] #[] := fun f => by rw [hev]; rfl
      rw [← hev] at hbase hdeps
      cases hpb : p b
      case true =>
        rw [if_neg (wanted_not (j := 35) (b := false) (d := 65) (c := true) rfl (by kernel_rfl) (by rw [← hev]; exact (hdeps 65 (of_decide_eq_true (by kernel_rfl))).trans (by rw [hpb])) (by decide))]
        exact hK _ _ (Below.refl _ _) (by intro d hd; cases hd; exact Or.inl ⟨hpb, rfl⟩) (by intro d hd hm; cases hd; exact absurd hm (by decide))
      case false =>
        rw [if_pos (wanted_of (j := 35) (b := false) (d := 65) rfl (by kernel_rfl) (by rw [← hev]; exact (hdeps 65 (of_decide_eq_true (by kernel_rfl))).trans (by rw [hpb])))]
        left
        have b3 : ev (.tmp 3) = (.pointer (some ⟨w.heap.size, 0, none⟩)) := hbase 3 (by kernel_rfl)
        have x3 := HX.out.1.call hB
        have x4 := HX.out.2.1.call hB
        have x8 := HX.out.2.2.1.call hB
        have z3 := x3.lt
        have z4 := x4.lt
        have z8 := x8.lt
        have u0 := x3.cell' (i := 0) rfl
        have u1 := x3.cell' (i := 1) rfl
        have u2 := x3.cell' (i := 2) rfl
        have u3 := x3.cell' (i := 3) rfl
        have s0 := x4.cell' (i := 0) rfl
        have s1 := x4.cell' (i := 1) rfl
        have s2 := x4.cell' (i := 2) rfl
        have s3 := x4.cell' (i := 3) rfl
        have t0 := x8.cell' (i := 0) rfl
        have t1 := x8.cell' (i := 1) rfl
        have t2 := x8.cell' (i := 2) rfl
        have t3 := x8.cell' (i := 3) rfl
        clear x3 x4 x8
        refine step_val (v := Value.agg #[.int .u64 (setW p 0 : Int), .int .u64 (setW p 1 : Int), .int .u64 (setW p 2 : Int), .int .u64 (setW p 3 : Int)]) (w' := w') ?_ (hK _ _ (Below.refl _ _) (by intro d hd; cases hd; exact Or.inr ⟨hpb, rfl⟩) (by intro d hd hm; cases hd; exact absurd hm (by decide)))
        rw [← hev]
        clear hK hdeps hbase hev
        simp only [execOp, hec, hef, b3]
        go_simp
    refine ⟨?_, ?_⟩
    · intro a w' hB hsz hbase hdeps K hK
      obtain ⟨ev, hev⟩ : ∃ ev, ev = a.eval := ⟨_, rfl⟩
      have hec : ∀ v, ev (.const v) = v := fun v => by rw [hev]; rfl
      have hef : ∀ f, ev (.func f) = .func (.func f) #[] #[] := fun f => by rw [hev]; rfl
      rw [← hev] at hbase hdeps
      cases hpb : p b
      case true =>
        rw [if_neg (wanted_not (j := 35) (b := false) (d := 65) (c := true) rfl (by kernel_rfl) (by rw [← hev]; exact (hdeps 65 (of_decide_eq_true (by kernel_rfl))).trans (by rw [hpb])) (by decide))]
        exact hK _ _ (Below.refl _ _) (by intro d hd; cases hd; exact Or.inl ⟨hpb, rfl⟩) (by intro d hd hm; cases hd; exact absurd hm (by decide))
      case false =>
        rw [if_pos (wanted_of (j := 35) (b := false) (d := 65) rfl (by kernel_rfl) (by rw [← hev]; exact (hdeps 65 (of_decide_eq_true (by kernel_rfl))).trans (by rw [hpb])))]
        left
        have b9 : ev (.tmp 9) = .int .u8 (o : Int) := (hbase 9 (by kernel_rfl))
        refine step_val (v := .int .u8 (o : Int)) (w' := w') ?_ (hK _ _ (Below.refl _ _) (by intro d hd; cases hd; exact Or.inr ⟨hpb, rfl⟩) (by intro d hd hm; cases hd; exact absurd hm (by decide)))
        rw [← hev]
        clear hK hdeps hbase hev
        simp only [execOp, hec, hef, b9]
        go_simp
    refine ⟨?_, ?_⟩
    · intro a w' hB hsz hbase hdeps K hK
      obtain ⟨ev, hev⟩ : ∃ ev, ev = a.eval := ⟨_, rfl⟩
      have hec : ∀ v, ev (.const v) = v := fun v => by rw [hev]; rfl
      have hef : ∀ f, ev (.func f) = .func (.func f) #[] #[] := fun f => by rw [hev]; rfl
      rw [← hev] at hbase hdeps
      cases hpb : p b
      case true =>
        rw [if_neg (wanted_not (j := 35) (b := false) (d := 65) (c := true) rfl (by kernel_rfl) (by rw [← hev]; exact (hdeps 65 (of_decide_eq_true (by kernel_rfl))).trans (by rw [hpb])) (by decide))]
        exact hK _ _ (Below.refl _ _) (by intro d hd; cases hd; exact Or.inl ⟨hpb, rfl⟩) (by intro d hd hm; cases hd; exact absurd hm (by decide))
      case false =>
        rw [if_pos (wanted_of (j := 35) (b := false) (d := 65) rfl (by kernel_rfl) (by rw [← hev]; exact (hdeps 65 (of_decide_eq_true (by kernel_rfl))).trans (by rw [hpb])))]
        left
        have d66 : ev (.tmp 66) = Value.agg #[.int .u64 (setW p 0 : Int), .int .u64 (setW p 1 : Int), .int .u64 (setW p 2 : Int), .int .u64 (setW p 3 : Int)] := (hdeps 66 (of_decide_eq_true (by kernel_rfl))).elim (fun h => absurd (hpb.symm.trans h.1) (by decide)) (fun h => h.2)
        have d67 : ev (.tmp 67) = .int .u8 (o : Int) := (hdeps 67 (of_decide_eq_true (by kernel_rfl))).elim (fun h => absurd (hpb.symm.trans h.1) (by decide)) (fun h => h.2)
        refine step_enter (w' := w') (f := 25) (args := #[Value.agg #[.int .u64 (setW p 0 : Int), .int .u64 (setW p 1 : Int), .int .u64 (setW p 2 : Int), .int .u64 (setW p 3 : Int)], .int .u8 (o : Int)]) ?_ ?_
        · rw [← hev]
          clear hK hdeps hbase hev
          simp only [execOp, hec, hef, d66, d67]
          go_simp
        · refine (bhasp p o ho2 _).mono ?_
          rintro e W ⟨rfl, hb2⟩
          exact ⟨_, rfl, hK _ _ hb2 (by intro d hd; cases hd; exact Or.inr ⟨hpb, rfl⟩) (by intro d hd hm; cases hd; exact absurd hm (by decide))⟩
    refine ⟨?_, ?_⟩
    · intro a w' hB hsz hbase hdeps K hK
      obtain ⟨ev, hev⟩ : ∃ ev, ev = a.eval := ⟨_, rfl⟩
      have hec : ∀ v, ev (.const v) = v := fun v => by rw [hev]; rfl
      have hef : ∀ f, ev (.func f) = .func (.func f) #[] #[] := fun f => by rw [hev]; rfl
      rw [← hev] at hbase hdeps
      rw [if_pos (wanted_of (j := 28) (b := true) (d := 58) rfl (by kernel_rfl) (by rw [← hev]; exact hdeps 58 (of_decide_eq_true (by kernel_rfl))))]
      left
      refine step_val (v := .bool (p b || p o)) (w' := w') ?_ (hK _ _ (Below.refl _ _) (by intro d hd; cases hd; exact rfl) (by intro d hd hm; cases hd; exact absurd hm (by decide)))
      rw [← hev]
      have d65 : ev (.tmp 65) = .bool (p b) := hdeps 65 (of_decide_eq_true (by kernel_rfl))
      obtain ⟨hpb, d68⟩ | ⟨hpb, d68⟩ := hdeps 68 (of_decide_eq_true (by kernel_rfl))
      · clear hK hdeps hbase hev
        simp only [execOp, hec, hef, d65, d68, hpb]
        go_simp
      · clear hK hdeps hbase hev
        simp only [execOp, hec, hef, d65, d68, hpb]
        go_simp
    refine ⟨?_, ?_⟩
    · intro a w' hB hsz hbase hdeps K hK
      obtain ⟨ev, hev⟩ : ∃ ev, ev = a.eval := ⟨_, rfl⟩
      have hec : ∀ v, ev (.const v) = v := fun v => by rw [hev]; rfl
      have hef : ∀ f, ev (.func f) = .func (.func f) #[] #[] := fun f => by rw [hev]; rfl
      rw [← hev] at hbase hdeps
      have d61 : ev (.tmp 61) = .bool (p b || p o) := hdeps 61 (of_decide_eq_true (by kernel_rfl))
      have d69 : ev (.tmp 69) = .bool (p b || p o) := hdeps 69 (of_decide_eq_true (by kernel_rfl))
      rw [if_pos (wanted_of (j := 28) (b := true) (d := 58) rfl (by kernel_rfl) (by rw [← hev]; exact hdeps 58 (of_decide_eq_true (by kernel_rfl))))]
      left
      refine step_val (v := .bool true) (w' := w') ?_ (hK _ _ (Below.refl _ _) (by intro d hd; cases hd; exact rfl) (by intro d hd hm; cases hd; exact absurd hm (by decide)))
      rw [← hev]
      clear hK hdeps hbase hev
      simp only [execOp, hec, hef, d61, d69]
      go_simp
    refine ⟨?_, ?_⟩
    · intro a w' hB hsz hbase hdeps K hK
      obtain ⟨ev, hev⟩ : ∃ ev, ev = a.eval := ⟨_, rfl⟩
      have hec : ∀ v, ev (.const v) = v := fun v => by rw [hev]; rfl
      have hef : ∀ f, ev (.func f) = .func (.func f) #[] #[] := fun f => by rw [hev]; rfl
      rw [← hev] at hbase hdeps
      have d58 : ev (.tmp 58) = .bool true := hdeps 58 (of_decide_eq_true (by kernel_rfl))
      have d70 : ev (.tmp 70) = .bool true := hdeps 70 (of_decide_eq_true (by kernel_rfl))
      rw [if_pos (by kernel_rfl)]
      left
      refine step_val (v := .bool true) (w' := w') ?_ (hK _ _ (Below.refl _ _) (by intro d hd; cases hd; exact rfl) (by intro d hd hm; cases hd; exact absurd hm (by decide)))
      rw [← hev]
      clear hK hdeps hbase hev
      simp only [execOp, hec, hef, d58, d70]
      go_simp
    refine ⟨?_, ?_⟩
    · intro a w' hB hsz hbase hdeps K hK
      obtain ⟨ev, hev⟩ : ∃ ev, ev = a.eval := ⟨_, rfl⟩
      have hec : ∀ v, ev (.const v) = v := fun v => by rw [hev]; rfl
      have hef : ∀ f, ev (.func f) = .func (.func f) #[] #[] := fun f => by rw [hev]; rfl
      rw [← hev] at hbase hdeps
      have d71 : ev (.tmp 71) = .bool true := hdeps 71 (of_decide_eq_true (by kernel_rfl))
      rw [if_pos (by kernel_rfl)]
      left
      refine step_val (v := .bool true) (w' := w') ?_ (hK _ _ (Below.refl _ _) (by intro d hd; cases hd; exact rfl) (by intro d hd hm; cases hd; exact absurd hm (by decide)))
      rw [← hev]
      clear hK hdeps hbase hev
      simp only [execOp, hec, hef, d71]
      go_simp
    refine ⟨?_, ?_⟩
    · intro a w' hB hsz hbase hdeps K hK
      obtain ⟨ev, hev⟩ : ∃ ev, ev = a.eval := ⟨_, rfl⟩
      have hec : ∀ v, ev (.const v) = v := fun v => by rw [hev]; rfl
      have hef : ∀ f, ev (.func f) = .func (.func f) #[] #[] := fun f => by rw [hev]; rfl
      rw [← hev] at hbase hdeps
      have b9 : ev (.tmp 9) = .int .u8 (o : Int) := (hbase 9 (by kernel_rfl))
      rw [if_pos (wanted_of (j := 42) (b := true) (d := 72) rfl (by kernel_rfl) (by rw [← hev]; exact hdeps 72 (of_decide_eq_true (by kernel_rfl))))]
      left
      refine step_val (v := .int .u8 (o : Int)) (w' := w') ?_ (hK _ _ (Below.refl _ _) (by intro d hd; cases hd; exact rfl) (by intro d hd hm; cases hd; exact absurd hm (by decide)))
      rw [← hev]
      clear hK hdeps hbase hev
      simp only [execOp, hec, hef, b9]
      go_simp
    refine ⟨?_, ?_⟩
    · intro a w' hB hsz hbase hdeps K hK
      obtain ⟨ev, hev⟩ : ∃ ev, ev = a.eval := ⟨_, rfl⟩
      have hec : ∀ v, ev (.const v) = v := fun v => by rw [hev]; rfl
      have hef : ∀ f, ev (.func f) = .func (.func f) #[] #[] := fun f => by rw [hev]; rfl
      rw [← hev] at hbase hdeps
      have d73 : ev (.tmp 73) = .int .u8 (o : Int) := hdeps 73 (of_decide_eq_true (by kernel_rfl))
      rw [if_pos (wanted_of (j := 42) (b := true) (d := 72) rfl (by kernel_rfl) (by rw [← hev]; exact hdeps 72 (of_decide_eq_true (by kernel_rfl))))]
      left
      refine step_val (v := .int .i64 (o : Int)) (w' := w') ?_ (hK _ _ (Below.refl _ _) (by intro d hd; cases hd; exact rfl) (by intro d hd hm; cases hd; exact absurd hm (by decide)))
      rw [← hev]
      clear hK hdeps hbase hev
      simp only [execOp, hec, hef, d73]
      go_simp
      exact wrap_id _ (by omega) (by omega)
    refine ⟨?_, ?_⟩
    · intro a w' hB hsz hbase hdeps K hK
      obtain ⟨ev, hev⟩ : ∃ ev, ev = a.eval := ⟨_, rfl⟩
      have hec : ∀ v, ev (.const v) = v := fun v => by rw [hev]; rfl
      have hef : ∀ f, ev (.func f) = .func (.func f) #[] #[] := fun f => by rw [hev]; rfl
      rw [← hev] at hbase hdeps
      have b2 : ev (.tmp 2) = .int .u8 (b : Int) := (hbase 2 (by kernel_rfl))
      rw [if_pos (wanted_of (j := 42) (b := true) (d := 72) rfl (by kernel_rfl) (by rw [← hev]; exact hdeps 72 (of_decide_eq_true (by kernel_rfl))))]
      left
      refine step_val (v := .int .u8 (b : Int)) (w' := w') ?_ (hK _ _ (Below.refl _ _) (by intro d hd; cases hd; exact rfl) (by intro d hd hm; cases hd; exact absurd hm (by decide)))
      rw [← hev]
      clear hK hdeps hbase hev
      simp only [execOp, hec, hef, b2]
      go_simp
    refine ⟨?_, ?_⟩
    · intro a w' hB hsz hbase hdeps K hK
      obtain ⟨ev, hev⟩ : ∃ ev, ev = a.eval := ⟨_, rfl⟩
      have hec : ∀ v, ev (.const v) = v := fun v => by rw [hev]; rfl
      have hef : ∀ f, ev (.func f) = .func (.func f) #[] #[] := fun f => by rw [hev]; rfl
      rw [← hev] at hbase hdeps
      have d75 : ev (.tmp 75) = .int .u8 (b : Int) := hdeps 75 (of_decide_eq_true (by kernel_rfl))
      rw [if_pos (wanted_of (j := 42) (b := true) (d := 72) rfl (by kernel_rfl) (by rw [← hev]; exact hdeps 72 (of_decide_eq_true (by kernel_rfl))))]
      left
      refine step_val (v := .int .i64 (b : Int)) (w' := w') ?_ (hK _ _ (Below.refl _ _) (by intro d hd; cases hd; exact rfl) (by intro d hd hm; cases hd; exact absurd hm (by decide)))
      rw [← hev]
      clear hK hdeps hbase hev
      simp only [execOp, hec, hef, d75]
      go_simp
      exact wrap_id _ (by omega) (by omega)
    refine ⟨?_, ?_⟩
    · intro a w' hB hsz hbase hdeps K hK
      obtain ⟨ev, hev⟩ : ∃ ev, ev = a.eval := ⟨_, rfl⟩
      have hec : ∀ v, ev (.const v) = v := fun v => by rw [hev]; rfl
      have hef : ∀ f, ev (.func f) = .func (.func f) #[] #[] := fun f => by rw [hev]; rfl
      rw [← hev] at hbase hdeps
      have d74 : ev (.tmp 74) = .int .i64 (o : Int) := hdeps 74 (of_decide_eq_true (by kernel_rfl))
      have d76 : ev (.tmp 76) = .int .i64 (b : Int) := hdeps 76 (of_decide_eq_true (by kernel_rfl))
      rw [if_pos (wanted_of (j := 42) (b := true) (d := 72) rfl (by kernel_rfl) (by rw [← hev]; exact hdeps 72 (of_decide_eq_true (by kernel_rfl))))]
      left
      refine step_val (v := .int .i64 ((o : Int) - (b : Int))) (w' := w') ?_ (hK _ _ (Below.refl _ _) (by intro d hd; cases hd; exact rfl) (by intro d hd hm; cases hd; exact absurd hm (by decide)))
      rw [← hev]
      clear hK hdeps hbase hev
      simp only [execOp, hec, hef, d74, d76]
      go_simp
      exact wrap_id _ (by omega) (by omega)
    refine ⟨?_, ?_⟩
    · intro a w' hB hsz hbase hdeps K hK
      obtain ⟨ev, hev⟩ : ∃ ev, ev = a.eval := ⟨_, rfl⟩
      have hec : ∀ v, ev (.const v) = v := fun v => by rw [hev]; rfl
      have hef : ∀ f, ev (.func f) = .func (.func f) #[] #[] := fun f => by rw [hev]; rfl
      rw [← hev] at hbase hdeps
      have d77 : ev (.tmp 77) = .int .i64 ((o : Int) - (b : Int)) := hdeps 77 (of_decide_eq_true (by kernel_rfl))
      rw [if_pos (wanted_of (j := 42) (b := true) (d := 72) rfl (by kernel_rfl) (by rw [← hev]; exact hdeps 72 (of_decide_eq_true (by kernel_rfl))))]
      left
      refine step_enter (w' := w') (f := 40) (args := #[.int .i64 ((o : Int) - (b : Int)), .int .i64 32]) ?_ ?_
      · rw [← hev]
        clear hK hdeps hbase hev
        simp only [execOp, hec, hef, d77]
        go_simp
      · refine (modFold o b ho2 hb hrel _).mono ?_
        rintro e W ⟨rfl, hb2⟩
        exact ⟨_, rfl, hK _ _ hb2 (by intro d hd; cases hd; exact rfl) (by intro d hd hm; cases hd; exact absurd hm (by decide))⟩
    refine ⟨?_, ?_⟩
    · intro a w' hB hsz hbase hdeps K hK
      obtain ⟨ev, hev⟩ : ∃ ev, ev = a.eval := ⟨_, rfl⟩
      have hec : ∀ v, ev (.const v) = v := fun v => by rw [hev]; rfl
      have hef : ∀ f, ev (.func f) = .func (.func f) #[] #[] := fun f => by rw [hev]; rfl
      rw [← hev] at hbase hdeps
      have d78 : ev (.tmp 78) = .int .i64 0 := hdeps 78 (of_decide_eq_true (by kernel_rfl))
      rw [if_pos (wanted_of (j := 42) (b := true) (d := 72) rfl (by kernel_rfl) (by rw [← hev]; exact hdeps 72 (of_decide_eq_true (by kernel_rfl))))]
      left
      refine step_val (v := .bool true) (w' := w') ?_ (hK _ _ (Below.refl _ _) (by intro d hd; cases hd; exact rfl) (by intro d hd hm; cases hd; exact absurd hm (by decide)))
      rw [← hev]
      clear hK hdeps hbase hev
      simp only [execOp, hec, hef, d78]
      go_simp
    refine ⟨?_, ?_⟩
    · intro a w' hB hsz hbase hdeps K hK
      obtain ⟨ev, hev⟩ : ∃ ev, ev = a.eval := ⟨_, rfl⟩
      have hec : ∀ v, ev (.const v) = v := fun v => by rw [hev]; rfl
      have hef : ∀ f, ev (.func f) = .func (.func f) #[] #[] := fun f => by rw [hev]; rfl
      rw [← hev] at hbase hdeps
      have d72 : ev (.tmp 72) = .bool true := hdeps 72 (of_decide_eq_true (by kernel_rfl))
      have d79 : ev (.tmp 79) = .bool true := hdeps 79 (of_decide_eq_true (by kernel_rfl))
      rw [if_pos (by kernel_rfl)]
      left
      refine step_val (v := .bool true) (w' := w') ?_ (hK _ _ (Below.refl _ _) (by intro d hd; cases hd; exact rfl) (by intro d hd hm; cases hd; exact absurd hm (by decide)))
      rw [← hev]
      clear hK hdeps hbase hev
      simp only [execOp, hec, hef, d72, d79]
      go_simp
    refine ⟨?_, ?_⟩
    · intro a w' hB hsz hbase hdeps K hK
      obtain ⟨ev, hev⟩ : ∃ ev, ev = a.eval := ⟨_, rfl⟩
      have hec : ∀ v, ev (.const v) = v := fun v => by rw [hev]; rfl
      have hef : ∀ f, ev (.func f) = .func (.func f) #[] #[] := fun f => by rw [hev]; rfl
      rw [← hev] at hbase hdeps
      have d80 : ev (.tmp 80) = .bool true := hdeps 80 (of_decide_eq_true (by kernel_rfl))
      rw [if_pos (by kernel_rfl)]
      left
      refine step_val (v := .bool true) (w' := w') ?_ (hK _ _ (Below.refl _ _) (by intro d hd; cases hd; exact rfl) (by intro d hd hm; cases hd; exact absurd hm (by decide)))
      rw [← hev]
      clear hK hdeps hbase hev
      simp only [execOp, hec, hef, d80]
      go_simp
    exact trivial

  case fin =>
    intro a x hB hsz hdef hbase hS _
    have h6 : a.eval (.tmp 6) = .bool true := hS _ (List.mem_of_getElem? (i := 51) rfl) 6 rfl
    have hfin := gr_call HX.out.2.2.2 hB
    clear hS HX hbase
    simp only [List.drop]
    go_wp2_with (fail)
    refine bodyPost_ret (v := .bool true) (by simp only [Act.eval, Array.getD_eq_getD_getElem?] at h6; simp [results, Tryd.results9, go_sem, h6]) (by rw [hdef]) ⟨rfl, hfin⟩
end Go.Proofs.YtcfdadgijnmemaaDoor
