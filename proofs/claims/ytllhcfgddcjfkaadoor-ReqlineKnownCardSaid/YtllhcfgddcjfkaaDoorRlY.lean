/-
  The code's Target, Text and Known, walked; no condition.
-/
import Derived.Test.YtllhcfgddcjfkaaDoorRlX
namespace Go.Proofs.YtllhcfgddcjfkaaDoor
open Go.RowKit
set_option linter.unusedVariables false
set_option linter.unusedSimpArgs false

set_option maxRecDepth 100000 in
set_option maxHeartbeats 4000000 in
theorem btgt (s : ByteArray) (hs : s.size ≤ 1000000) (w : World) :
    Calls Tryd.prog 24 #[.string s] w fun e W' => e = .returned (.int .i64 (tgtE s)) ∧ Below w.heap.size w W' := by
  by_cases h1 : (1024 : Int) < (s.size : Int)
  · have k : Hid (tgtE s = 4) := Lib.hid (by unfold tgtE; rw [if_pos (by omega)])
    go_enter Tryd.func24, Tryd.ntmps24
    go_wp2_with (fail)
    go_ret
    rw [k.out]
    exact ⟨rfl, Below.refl _ _⟩
  · by_cases h0 : s.size = 0
    · have k : Hid (tgtE s = 3) := Lib.hid (by unfold tgtE; rw [if_neg (by omega), if_pos (.inl h0)])
      obtain rfl := empty_of_size h0
      clear h0
      go_enter Tryd.func24, Tryd.ntmps24
      go_wp2_with (fail)
      go_ret
      rw [k.out]
      exact ⟨rfl, gr_alloc (Below.refl _ _) _⟩
    · have hne := nonempty_b s (by omega)
      have z0 := gr_alloc (Below.refl w.heap.size w) (.cells #[.string ⟨#[]⟩, .string s, .string ⟨#[]⟩, .int .i64 0] 54)
      have b0 := Blk.new w 54 #[.string ⟨#[]⟩, .string s, .string ⟨#[]⟩, .int .i64 0]
      have x0 := b0.cell' (i := 0) rfl
      have x1 := b0.cell' (i := 1) rfl
      have x2 := b0.cell' (i := 2) rfl
      have x3 := b0.cell' (i := 3) rfl
      have xl := b0.lt
      have HZ := Lib.hid z0
      have hle := atB_le s
      clear z0 b0
      go_enter Tryd.func24, Tryd.ntmps24
      go_wp2_with (fail)
      refine (btarget _ _ _ _ (by omega) _).mono ?_
      rintro e W1 ⟨rfl, h1⟩
      have H1 := Lib.hid (gr_call HZ.out h1)
      clear h1
      obtain ⟨q, hq⟩ : ∃ q, q = atB s := ⟨_, rfl⟩
      rw [← hq] at hle ⊢
      have HQ := Lib.hid hq
      clear hq
      by_cases hlt : (q : Int) < (s.size : Int)
      · have k : Hid (tgtE s = 3) := Lib.hid (by unfold tgtE; rw [if_neg (by omega), if_pos (.inr (by rw [← HQ.out]; omega))])
        go_wp2_with (fail)
        go_ret
        rw [k.out]
        exact ⟨rfl, H1.out⟩
      · have k : Hid (tgtE s = 0) := Lib.hid (by unfold tgtE; rw [if_neg (by omega), if_neg (by rw [← HQ.out]; omega)])
        go_wp2_with (fail)
        go_ret
        rw [k.out]
        exact ⟨rfl, H1.out⟩

set_option maxRecDepth 100000 in
set_option maxHeartbeats 4000000 in
theorem btext (m t : ByteArray) (hs : m.size ≤ 1000000) (ht : t.size ≤ 1000000) (w : World) :
    Calls Tryd.prog 20 #[.agg #[.string m, .string t]] w fun e W' => e = .returned (.tuple #[.string (txtS m t), .int .i64 (txtE m t)]) ∧ Below w.heap.size w W' := by
  have z0 := gr_alloc (Below.refl w.heap.size w) (.cells #[.string m, .string t] 29)
  have b0 := Blk.new w 29 #[.string m, .string t]
  have x0 := b0.cell' (i := 0) rfl
  have x1 := b0.cell' (i := 1) rfl
  have xl := b0.lt
  have HZ := Lib.hid (And.intro b0 z0)
  clear z0 b0
  go_enter Tryd.func20, Tryd.ntmps20
  by_cases h1 : (16 : Int) < (m.size : Int)
  · have k : Hid (txtE m t = 11) := Lib.hid (by unfold txtE nameE; rw [decide_eq_false (show ¬ m.size ≤ 16 by omega)]; rfl)
    go_wp2_with (fail)
    go_ret2
    unfold txtS
    rw [k.out]
    exact ⟨rfl, HZ.out.2⟩
  · go_wp2_with (fail)
    refine (tis m (by omega) _).mono ?_
    rintro e W1 ⟨rfl, h2⟩
    have y := HZ.out.1.call h2
    have y0 := y.cell' (i := 0) rfl
    have y1 := y.cell' (i := 1) rfl
    have yl := y.lt
    have H1 := Lib.hid (And.intro y (gr_call HZ.out.2 h2))
    clear h2 x0 x1 xl y
    cases hi : isT m
    · have k : Hid (txtE m t = 11) := Lib.hid (by unfold txtE nameE; rw [hi, Bool.and_false]; rfl)
      clear hi
      go_wp2_with (fail)
      go_ret2
      unfold txtS
      rw [k.out]
      exact ⟨rfl, H1.out.2⟩
    · have k : Hid (txtE m t = tgtE t) := Lib.hid (by unfold txtE nameE; rw [hi, decide_eq_true (show m.size ≤ 16 by omega)]; rfl)
      clear hi
      go_wp2_with (fail)
      refine (btgt t ht _).mono ?_
      rintro e W2 ⟨rfl, h2⟩
      have z := H1.out.1.call h2
      have z0 := z.cell' (i := 0) rfl
      have z1 := z.cell' (i := 1) rfl
      have zl := z.lt
      have H2 := Lib.hid (gr_call H1.out.2 h2)
      clear h2 y0 y1 yl z
      obtain ⟨E, hE⟩ : ∃ E, E = tgtE t := ⟨_, rfl⟩
      rw [← hE]
      have HE := Lib.hid (k.out.trans hE.symm)
      clear hE
      by_cases h0 : E = 0
      · subst h0
        go_wp2_with (fail)
        go_ret2
        unfold txtS
        rw [HE.out]
        exact ⟨rfl, H2.out⟩
      · have q : (E != 0) = true := by simp; exact h0
        have HN := Lib.hid h0
        clear h0
        go_wp2_with (fail)
        go_ret2
        unfold txtS
        rw [HE.out, if_neg HN.out]
        exact ⟨rfl, H2.out⟩

/-- The known methods. -/
def getE : ByteArray := ⟨#[71, 69, 84]⟩
def headE : ByteArray := ⟨#[72, 69, 65, 68]⟩
def postE : ByteArray := ⟨#[80, 79, 83, 84]⟩
def knownN (m : ByteArray) : Int := if m = getE then 1 else if m = headE then 2 else if m = postE then 3 else 0
def knownB (m : ByteArray) : Bool := decide (m = getE) || (decide (m = headE) || decide (m = postE))
theorem get_beq (s : ByteArray) : (s.toList == [71, 69, 84]) = decide (s = getE) := by
  rw [← str_beq s getE, Lib.toList_data getE]; rfl
theorem head_beq (s : ByteArray) : (s.toList == [72, 69, 65, 68]) = decide (s = headE) := by
  rw [← str_beq s headE, Lib.toList_data headE]; rfl
theorem post_beq (s : ByteArray) : (s.toList == [80, 79, 83, 84]) = decide (s = postE) := by
  rw [← str_beq s postE, Lib.toList_data postE]; rfl

def anyN (m : ByteArray) : Int := if m = getE then 0 else if m = headE then 1 else if m = postE then 2 else 0
set_option maxRecDepth 100000 in
set_option maxHeartbeats 4000000 in
theorem bany (m : ByteArray) (g : Nat) (W : World) (hb : Blk W g 9 #[.string ⟨#[71, 69, 84]⟩, .string ⟨#[72, 69, 65, 68]⟩, .string ⟨#[80, 79, 83, 84]⟩]) :
    Calls Tryd.prog 34 #[.string m, .slice (some ⟨g, 0, none⟩) 3 3] W fun e W' => e = .returned (.tuple #[.int .i64 (anyN m), .bool (knownB m)]) ∧ W = W' := by
  have x0 := hb.cell' (i := 0) rfl
  have x1 := hb.cell' (i := 1) rfl
  have x2 := hb.cell' (i := 2) rfl
  have xl := hb.lt
  clear hb
  have g1 := get_beq m
  have g2 := head_beq m
  have g3 := post_beq m
  go_enter Tryd.func34, Tryd.ntmps34
  go_wp2_with (fail)
  go_loop [10] (fun i => ∃ k : Nat, k ≤ 3 ∧ i = .int .i64 (k : Int) ∧ (0 < k → m ≠ getE) ∧ (1 < k → m ≠ headE) ∧ (2 < k → m ≠ postE)) (fun i => 3 - (intOf i).toNat)
  case atStart => exact ⟨0, by omega, rfl, by omega, by omega, by omega⟩
  case round =>
    obtain ⟨j, hj, rfl, j1, j2, j3⟩ := hrel
    have HJ := Lib.hid (And.intro j1 (And.intro j2 j3))
    clear j1 j2 j3
    have hj4 : j = 0 ∨ j = 1 ∨ j = 2 ∨ j = 3 := by omega
    rcases hj4 with rfl | rfl | rfl | rfl
    · by_cases hm : m = getE
      · have k : Hid (anyN m = 0 ∧ knownB m = true) := Lib.hid (by unfold anyN knownB; rw [if_pos hm, decide_eq_true hm]; exact ⟨rfl, rfl⟩)
        rw [decide_eq_true hm] at g1
        clear hm
        go_wp2_with (fail)
        go_ret2
        exact ⟨by rw [k.out.1, k.out.2] <;> rfl, rfl⟩
      · have hm' := Lib.hid hm
        rw [decide_eq_false hm] at g1
        clear hm
        go_wp2_with (fail)
        exact ⟨⟨1, by omega, rfl, fun _ => hm'.out, by omega, by omega⟩, by simp [intOf]⟩
    · by_cases hm : m = headE
      · have k : Hid (anyN m = 1 ∧ knownB m = true) := Lib.hid (by unfold anyN knownB; rw [if_neg (HJ.out.1 (by omega)), if_pos hm, decide_eq_true hm]; exact ⟨rfl, by simp⟩)
        rw [decide_eq_true hm] at g2
        clear hm
        go_wp2_with (fail)
        go_ret2
        exact ⟨by rw [k.out.1, k.out.2] <;> rfl, rfl⟩
      · have hm' := Lib.hid hm
        rw [decide_eq_false hm] at g2
        clear hm
        go_wp2_with (fail)
        exact ⟨⟨2, by omega, rfl, fun _ => HJ.out.1 (by omega), fun _ => hm'.out, by omega⟩, by simp [intOf]⟩
    · by_cases hm : m = postE
      · have k : Hid (anyN m = 2 ∧ knownB m = true) := Lib.hid (by unfold anyN knownB; rw [if_neg (HJ.out.1 (by omega)), if_neg (HJ.out.2.1 (by omega)), if_pos hm, decide_eq_true hm]; exact ⟨rfl, by simp⟩)
        rw [decide_eq_true hm] at g3
        clear hm
        go_wp2_with (fail)
        go_ret2
        exact ⟨by rw [k.out.1, k.out.2] <;> rfl, rfl⟩
      · have hm' := Lib.hid hm
        rw [decide_eq_false hm] at g3
        clear hm
        go_wp2_with (fail)
        exact ⟨⟨3, by omega, rfl, fun _ => HJ.out.1 (by omega), fun _ => HJ.out.2.1 (by omega), fun _ => hm'.out⟩, by simp [intOf]⟩
    · have k : Hid (anyN m = 0 ∧ knownB m = false) := Lib.hid (by
        unfold anyN knownB
        rw [if_neg (HJ.out.1 (by omega)), if_neg (HJ.out.2.1 (by omega)), if_neg (HJ.out.2.2 (by omega)), decide_eq_false (HJ.out.1 (by omega)), decide_eq_false (HJ.out.2.1 (by omega)), decide_eq_false (HJ.out.2.2 (by omega))]
        exact ⟨rfl, rfl⟩)
      go_wp2_with (fail)
      go_ret2
      exact ⟨by rw [k.out.1, k.out.2] <;> rfl, rfl⟩
theorem known_any (m : ByteArray) : (knownB m = true → knownN m = anyN m + 1) ∧ (knownB m = false → knownN m = 0) := by
  unfold knownB knownN anyN
  by_cases h1 : m = getE
  · simp [h1]
  · by_cases h2 : m = headE
    · rw [if_neg h1, if_pos h2, if_neg h1, if_pos h2]; simp [h2]
    · by_cases h3 : m = postE
      · rw [if_neg h1, if_neg h2, if_pos h3, if_neg h1, if_neg h2, if_pos h3]; simp [h3]
      · simp [h1, h2, h3]

set_option maxRecDepth 100000 in
set_option maxHeartbeats 4000000 in
theorem bknown (m : ByteArray) (w : World) :
    Calls Tryd.prog 22 #[.string m] w fun e W' => e = .returned (.tuple #[.int .i64 (knownN m), .bool (knownB m)]) ∧ Below w.heap.size w W' := by
  have hk := known_any m
  have hb : -1 ≤ anyN m ∧ anyN m ≤ 3 := by unfold anyN; split <;> (try split) <;> (try split) <;> omega
  have HK := Lib.hid hk
  clear hk
  go_enter Tryd.func22, Tryd.ntmps22
  go_wp2_with (fail)
  refine (bany m _ _ (Blk.new w 9 #[.string ⟨#[71, 69, 84]⟩, .string ⟨#[72, 69, 65, 68]⟩, .string ⟨#[80, 79, 83, 84]⟩])).mono ?_
  rintro e W1 ⟨rfl, rfl⟩
  obtain ⟨A, hA⟩ : ∃ A, A = anyN m := ⟨_, rfl⟩
  rw [← hA] at HK hb ⊢
  clear hA
  cases hB : knownB m
  · have h0 := HK.out.2 hB
    have H0 := Lib.hid (And.intro h0 hB)
    clear h0 hB
    go_wp2_with (fail)
    go_ret2
    exact ⟨by rw [H0.out.1, H0.out.2] <;> rfl, gr_alloc (Below.refl _ _) _⟩
  · have h0 := HK.out.1 hB
    have H0 := Lib.hid (And.intro h0 hB)
    clear h0 hB
    go_wp2_with (fail)
    go_ret2
    exact ⟨by rw [H0.out.1, H0.out.2] <;> rfl, gr_alloc (Below.refl _ _) _⟩
end Go.Proofs.YtllhcfgddcjfkaaDoor
