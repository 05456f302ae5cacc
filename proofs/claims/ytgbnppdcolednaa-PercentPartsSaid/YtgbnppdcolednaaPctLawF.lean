/-
  The statements of percent, walked: PercentParts returns true, whatever the input; condition: none.
-/
import Derived.Test.YtgbnppdcolednaaPctLawB
import Derived.Test.YtgbnppdcolednaaPctPlain
import Derived.Test.YtgbnppdcolednaaKin
import Derived.Test.YtgbnppdcolednaaMod
namespace Go.Proofs.Ytgbnppdcolednaa
open Go.RowKit
set_option linter.unusedVariables false
set_option linter.unusedSimpArgs false

/-- The numbers of a list, as they lie in memory; the list may be nil where it is empty. -/
def Nums (w : World) (A : Option Addr) (n : Nat) (Z : Nat → Int) : Prop :=
  ∀ i, i < n → (-9223372036854775808 ≤ Z i ∧ Z i ≤ 9223372036854775807) ∧ ∃ ad, A = some ad ∧ ad.block < w.heap.size ∧ w.cell? (ad.add i) = some (.int .i64 (Z i))
theorem Nums.below {w w' : World} {A : Option Addr} {n : Nat} {Z : Nat → Int} (h : Nums w A n Z) (hb : Below w.heap.size w w') : Nums w' A n Z := by
  intro i hi
  obtain ⟨hz, ad, ha, hl, hc⟩ := h i hi
  have hl' : (ad.add i).block < w.heap.size := by rw [block_of_add]; exact hl
  exact ⟨hz, ad, ha, Nat.lt_of_lt_of_le hl hb.size, by rw [hb.cell hl']; exact hc⟩

def hexs : ByteArray := ⟨#[48, 49, 50, 51, 52, 53, 54, 55, 56, 57, 97, 98, 99, 100, 101, 102, 65, 66, 67, 68, 69, 70]⟩
def abcs : ByteArray := ⟨#[97, 98, 99, 47, 46, 45]⟩

def PartRel (w0 : World) (len : Nat) (m : Nat) (sv i : Value) (wr : World) : Prop :=
  ∃ (k : Nat) (s : ByteArray), k ≤ 60 ∧ k ≤ len ∧ m = 60 - k ∧ i = .int .i64 (k : Int) ∧ sv = .string s ∧ okS s ∧ s.size ≤ 3 * k ∧ Below w0.heap.size w0 wr

theorem okS_esc : ∀ i : Nat, i < 22 → ∀ j : Nat, j < 15 → okS (((⟨#[37]⟩ : ByteArray) ++ hexs.extract i (i + 1)) ++ hexs.extract j (j + 1)) := by decide +kernel
theorem okS_abc : ∀ i : Nat, i < 6 → okS (abcs.extract i (i + 1)) := by decide +kernel

theorem okS_three {s a b c : ByteArray} (h : okS s) (k : okS (a ++ b ++ c)) : okS (s ++ a ++ b ++ c) := by
  have := okS_append h k
  rwa [show s ++ (a ++ b ++ c) = s ++ a ++ b ++ c from bytes_ext (by simp only [append_list, List.append_assoc])] at this
theorem size_ext (s : ByteArray) (i : Nat) : (s.extract i (i + 1)).size ≤ 1 := by rw [ByteArray.size_extract]; omega
theorem size_three (s t : ByteArray) (i j : Nat) {k : Nat} (h : s.size ≤ 3 * k) : (s ++ (⟨#[37]⟩ : ByteArray) ++ t.extract i (i + 1) ++ t.extract j (j + 1)).size ≤ 3 * (k + 1) := by
  have h1 := size_ext t i
  have h2 := size_ext t j
  have h3 : (⟨#[37]⟩ : ByteArray).size = 1 := rfl
  rw [ByteArray.size_append, ByteArray.size_append, ByteArray.size_append]
  omega
theorem size_one (s t : ByteArray) (i : Nat) {k : Nat} (h : s.size ≤ 3 * k) : (s ++ t.extract i (i + 1)).size ≤ 3 * (k + 1) := by
  have h1 := size_ext t i
  rw [ByteArray.size_append]
  omega

/-- What a string of escapes and letters says, and where it is cut. -/
structure PartS (s : ByteArray) (n : Nat) (c a b : ByteArray) (p : Nat) : Prop where
  cut : cutS s (n : Int) = c ∧ cutE s (n : Int) = 0
  whole : rErr s = 0 ∧ rAt s = 0 ∧ rOut s = a
  part : rErr c = 0 ∧ rAt c = 0 ∧ rOut c = b
  off : offV s (p : Int) = (c.size : Int) ∧ offE s (p : Int) = 0
  le : c.size ≤ n ∧ n ≤ c.size + 2 ∧ n ≤ s.size
  same : s.extract 0 c.size = c ∧ a.extract 0 b.size = b ∧ b.size ≤ a.size ∧ b.size = p
  stop : n = c.size ∨ ∃ h : c.size < s.size, s[c.size] = 37

theorem part_law (s : ByteArray) (n : Nat) (ho : okS s) (hn : n ≤ s.size) : ∃ c a b p, PartS s n c a b p := by
  obtain ⟨l1, l2, l3, l4, l5, l6, l7⟩ := cut_law s.data.toList (okS_L.1 ho) n (by rw [size_data]; exact hn)
  have hk : cutL s.data.toList n ≤ s.size := by omega
  generalize hkk : cutL s.data.toList n = k at l1 l2 l3 l4 l5 l6 l7 hk
  have hcs : (s.extract 0 k).size = k := by rw [ByteArray.size_extract]; omega
  have hcl : (s.extract 0 k).data.toList = s.data.toList.take k := ext_take s k
  have hoc : okS (s.extract 0 k) := by rw [okS_L, hcl]; exact l1
  refine ⟨s.extract 0 k, rOut s, rOut (s.extract 0 k), (scan (s.data.toList.take k)).1.length, ⟨⟨?_, ?_⟩, ⟨(rOk ho).1, (rOk ho).2.1, rfl⟩, ⟨(rOk hoc).1, (rOk hoc).2.1, rfl⟩, ⟨?_, ?_⟩, ⟨by omega, by omega, hn⟩, ⟨by rw [hcs], ?_, ?_, ?_⟩, ?_⟩⟩
  · unfold cutS; rw [if_neg (by omega), if_pos ho, Int.toNat_natCast, hkk]
  · unfold cutE; rw [if_neg (by omega), if_pos ho]
  · unfold offV; rw [if_neg (by omega), if_pos ho, if_pos (by omega), Int.toNat_natCast, l6, hcs]
  · unfold offE; rw [if_neg (by omega), if_pos ho, if_pos (by omega)]
  · apply bytes_ext
    rw [ext_take, (rOk ho).2.2.1, (rOk hoc).2.2.1, hcl]
    show (scan s.data.toList).1.take (scan (s.data.toList.take k)).1.toArray.size = (scan (s.data.toList.take k)).1
    rw [List.size_toArray, ← l4]
  · rw [(rOk ho).2.2.1, (rOk hoc).2.2.1, hcl]
    show (scan (s.data.toList.take k)).1.toArray.size ≤ (scan s.data.toList).1.toArray.size
    rw [List.size_toArray, List.size_toArray]; exact l5
  · rw [(rOk hoc).2.2.1, hcl]
    show (scan (s.data.toList.take k)).1.toArray.size = _
    rw [List.size_toArray]
  · rcases l7 with l7 | l7
    · left; rw [hcs]; omega
    · right
      rw [List.getElem?_eq_some_iff] at l7
      obtain ⟨h, e⟩ := l7
      rw [size_data] at h
      refine ⟨by rw [hcs]; exact h, ?_⟩
      simp only [hcs]
      exact e

set_option maxRecDepth 100000 in
set_option maxHeartbeats 4000000 in
theorem law_parts (A : Option Addr) (len cap : Nat) (Z : Nat → Int) (n : Int) (w : World) (hZ : Nums w A len Z) (hn : -9223372036854775808 ≤ n ∧ n ≤ 9223372036854775807) :
    Calls Try.prog 9 #[.slice A len cap, .int .i64 n] w fun e w' => e = .returned (.bool true) ∧ Below w.heap.size w w' := by
  have hZ := Lib.hid hZ
  have hn := Lib.hid hn
  go_enter Try.func9, Try.ntmps9
  go_wp2_with (fail)
  refine (known _).mono ?_
  rintro e W1 ⟨rfl, h1⟩
  have HZ := Lib.hid (hZ.out.below h1)
  go_wp2_with (fail)
  go_loopg [6, 7] 60 (fun m s i wr => PartRel w len m s i wr)
  case atStart => exact ⟨0, ⟨#[]⟩, by omega, by omega, rfl, rfl, rfl, by decide +kernel, by decide, h1⟩
  case round =>
    obtain ⟨k, s, hk, hkl, hm, rfl, rfl, hos, hsz, hbel⟩ := hrel
    by_cases hin : k < len ∧ k < 60
    · obtain ⟨hlt, h60⟩ := hin
      · obtain ⟨⟨hz0, hz1⟩, ad, rfl, hab, hc⟩ := (hZ.out.below hbel) k hlt
        obtain ⟨X, hX, hX0⟩ : ∃ X : Nat, Z k % 1000 = (X : Int) ∧ X < 1000 := ⟨(Z k % 1000).toNat, by omega, by omega⟩
        have hk0 : (0 : Int) ≤ (k : Int) := by omega
        have hk1 : (k : Int) < (len : Int) := by omega
        have hk2 : (k : Int) < 60 := by omega
        have D := Lib.hid (And.intro hm (And.intro hos (And.intro hbel hX)))
        clear hm hos hbel hX
        have xa : (0 : Int) ≤ (X : Int) := by omega
        have xb : (X : Int) < 1000 := by omega
        by_cases h3 : X % 3 = 0
        · go_wp2_with (fail)
          refine (kmod (Z k) 1000 _ ⟨hz0, hz1⟩ (by omega)).mono ?_
          rintro e W2 ⟨rfl, h2⟩
          rw [D.out.2.2.2]
          go_wp2_with (fail)
          have q0 : (0 : Int) ≤ (X : Int) / 3 % 22 := by omega
          have q1 : (X : Int) / 3 % 22 + 1 ≤ 22 := by omega
          have q2 : (0 : Int) ≤ (X : Int) / 66 % 15 := by omega
          have q3 : (X : Int) / 66 % 15 + 1 ≤ 15 := by omega
          have ss : (s.size : Int) ≤ 8388608 := by omega
          go_quiet (fail)
          have hd := okS_esc (X / 3 % 22) (by omega) (X / 66 % 15) (by omega)
          go_wp2_with (fail)
          go_roundg (60 - (k + 1))
          case measure => have := D.out.1; omega
          case rel =>
            obtain ⟨d1, d2, d3, d4⟩ := D.out
            refine ⟨k + 1, _, by omega, by omega, rfl, rfl, rfl, okS_three d2 hd, size_three _ _ _ _ hsz, below_drewN (gr_call d3 h2) _⟩
        · have h3' : ((X : Int) % 3 == 0) = false := by simpa using fun e => h3 (by omega)
          go_wp2_with (fail)
          refine (kmod (Z k) 1000 _ ⟨hz0, hz1⟩ (by omega)).mono ?_
          rintro e W2 ⟨rfl, h2⟩
          rw [D.out.2.2.2]
          have q0 : (0 : Int) ≤ (X : Int) / 3 % 6 := by omega
          have q1 : (X : Int) / 3 % 6 + 1 ≤ 6 := by omega
          have ss : (s.size : Int) ≤ 8388608 := by omega
          go_wp2_with (fail)
          go_roundg (60 - (k + 1))
          case measure => have := D.out.1; omega
          case rel =>
            obtain ⟨d1, d2, d3, d4⟩ := D.out
            refine ⟨k + 1, _, by omega, by omega, rfl, rfl, rfl, okS_append d2 (okS_abc (X / 3 % 6) (by omega)), size_one _ _ _ hsz, gr_call d3 h2⟩
    · have hfo : ((len : Int) ≤ k) ∨ ((k : Int) < len ∧ (60 : Int) ≤ k) := by omega
      have hsz' : s.size ≤ 180 := by omega
      have hn' := hn.out
      obtain ⟨N, hN, hN0⟩ : ∃ N : Nat, n % ((s.size : Int) + 1) = (N : Int) ∧ N ≤ s.size := by
        have b1 := Int.emod_nonneg n (show (s.size : Int) + 1 ≠ 0 by omega)
        have b2 := Int.emod_lt_of_pos n (show 0 < (s.size : Int) + 1 by omega)
        exact ⟨(n % ((s.size : Int) + 1)).toNat, by omega, by omega⟩
      obtain ⟨c, a, b, p, P⟩ := part_law s N hos hN0
      obtain ⟨hle1, hle2, hle3⟩ := P.le
      obtain ⟨hx1, hx2, hx3, hx4⟩ := P.same
      have hst := P.stop
      subst hx4
      have D := Lib.hid (And.intro hm (And.intro hin (And.intro hos (And.intro hN hst))))
      have P := Lib.hid P
      have X1 := Lib.hid hx1
      have X2 := Lib.hid hx2
      clear hm hin hos hN hst hx1 hx2
      have hcz : c.size ≤ 1000000000 := by omega
      have hszz : s.size ≤ 1000000000 := by omega
      rcases hfo with hfo | ⟨hfo, hfo2⟩
      all_goals
        go_wp2_with (fail)
        refine (kmod n ((s.size : Int) + 1) _ hn' (by omega)).mono ?_
        rintro e W2 ⟨rfl, h2⟩
        rw [D.out.2.2.2.1]
        have I2 := gr_call hbel h2
        clear h2 hbel
        go_wp2_with (fail)
        refine (pdecode s _ hszz).mono ?_
        rintro e W3 ⟨rfl, h3⟩
        rw [P.out.whole.1, P.out.whole.2.1, P.out.whole.2.2]
        have I3 := gr_alloc (gr_call I2 h3) (.cells #[.int .i64 0, .int .i64 0] 33)
        have F1 := Blk.new W3 33 #[.int .i64 0, .int .i64 0]
        clear h3 I2
        go_wp2_with (fail)
        refine (pcut s N _ hszz).mono ?_
        rintro e W4 ⟨rfl, h4⟩
        rw [P.out.cut.1, P.out.cut.2]
        have I4 := gr_call I3 h4
        have F14 := F1.call h4
        clear h4 F1 I3
        go_wp2_with (fail)
        refine (pdecode c _ hcz).mono ?_
        rintro e W5 ⟨rfl, h5⟩
        rw [P.out.part.1, P.out.part.2.1, P.out.part.2.2]
        have I5 := gr_alloc (gr_call I4 h5) (.cells #[.int .i64 0, .int .i64 0] 33)
        have F2 := Blk.new W5 33 #[.int .i64 0, .int .i64 0]
        have F15 := (F14.call h5).alloc (.cells #[.int .i64 0, .int .i64 0] 33)
        clear h5 I4 F14
        have f0 := F15.cell' (i := 0) (v := .int .i64 0) rfl
        have f1 := F15.cell' (i := 1) (v := .int .i64 0) rfl
        have g0 := F2.cell' (i := 0) (v := .int .i64 0) rfl
        have g1 := F2.cell' (i := 1) (v := .int .i64 0) rfl
        clear F15 F2
        have hx1 := X1.out
        have hx2 := X2.out
        go_wp2_with (fail)
        refine (poffset s (b.size : Int) _ hszz).mono ?_
        rintro e W6 ⟨rfl, h6⟩
        rw [P.out.off.1, P.out.off.2]
        have I6 := gr_call I5 h6
        clear h6 I5 f0 f1 g0 g1
        by_cases hend : N = c.size
        · subst hend
          go_wp2_with (fail)
          go_ret
          exact ⟨rfl, I6⟩
        · have hend' : ((N : Int) - (c.size : Int) == 0) = false := by simpa using fun e => hend (by omega)
          obtain ⟨hl, hs37⟩ := D.out.2.2.2.2.resolve_left hend
          have hl' : (c.size : Int) < (s.size : Int) := by omega
          go_wp2_with (fail)
          go_ret
          exact ⟨rfl, I6⟩
end Go.Proofs.Ytgbnppdcolednaa
