/-
  The code's checks of the three parts, walked; no condition.
-/
import Derived.Test.YtllhcfgddcjfkaaDoorRlL
import Derived.Test.YtllhcfgddcjfkaaDoorRow
namespace Go.Proofs.YtllhcfgddcjfkaaDoor
open Go.RowKit
set_option linter.unusedVariables false
set_option linter.unusedSimpArgs false

theorem get_byS (s : ByteArray) (i : Nat) (h : i < s.size) : (s[i]'h).toNat = byS s i := by
  unfold byS
  rw [List.getD_eq_getElem?_getD, List.getElem?_eq_getElem (by rw [size_data]; exact h)]
  rfl
theorem ver_get : ∀ k : Nat, k < 8 → ∀ h' : k < ({ data := #[72, 84, 84, 80, 47, 49, 46, 49] } : ByteArray).size, (({ data := #[72, 84, 84, 80, 47, 49, 46, 49] } : ByteArray)[k]'h').toNat = verB k := by decide +kernel
/-- Up to here nothing stops a check. -/
def UpTo (P : Nat → Bool) (n j : Nat) : Prop := j ≤ n ∧ ∀ x, x < j → P x = false
theorem upto_zero (P : Nat → Bool) (n : Nat) : UpTo P n 0 := ⟨Nat.zero_le _, fun x hx => absurd hx (by omega)⟩
theorem upto_next {P : Nat → Bool} {n j : Nat} (h : UpTo P n j) (hj : j < n) (hp : P j = false) : UpTo P n (j + 1) := ⟨hj, fun x hx => by
  by_cases e : x = j
  · rw [e]; exact hp
  · exact h.2 x (by omega)⟩
theorem upto_end {P : Nat → Bool} {n j : Nat} (h : UpTo P n j) (hp : j < n → P j = true) : firstN P n = j := firstN_is h.1 h.2 hp
def UpRel (P : Nat → Bool) (n : Nat) (w : World) (k : Value) (wr : World) : Prop := ∃ j : Nat, UpTo P n j ∧ k = .int .i64 (j : Int) ∧ Below w.heap.size w wr

set_option maxRecDepth 100000 in
set_option maxHeartbeats 2000000 in
theorem bmethod (a b c : ByteArray) (N : Int) (ha : a.size ≤ 1000000) (w : World) :
    Calls Tryd.prog 38 #[.agg #[.string a, .string b, .string c, .int .i64 N]] w fun e W' => e = .returned (.int .i64 (atA a : Int)) ∧ Below w.heap.size w W' := by
  have z0 := gr_alloc (Below.refl w.heap.size w) (.cells #[.string a, .string b, .string c, .int .i64 N] 54)
  have b0 := Blk.new w 54 #[.string a, .string b, .string c, .int .i64 N]
  have u0 := b0.cell' (i := 0) rfl
  have u1 := b0.cell' (i := 1) rfl
  have u2 := b0.cell' (i := 2) rfl
  have u3 := b0.cell' (i := 3) rfl
  have ul := b0.lt
  have HZ := Lib.hid z0
  clear z0 b0
  go_enter Tryd.func38, Tryd.ntmps38
  go_wp2_with (fail)
  clear u0 u1 u2 u3 ul
  go_loopw [11] (fun k wr => UpRel (fun x => !tokB (byS a x)) a.size w k wr) (fun k _ => a.size - (intOf k).toNat)
  case atStart => exact ⟨0, upto_zero _ _, rfl, HZ.out⟩
  case round =>
    obtain ⟨j, hu, rfl, hb⟩ := hrel
    have hj := hu.1
    have HU := Lib.hid (And.intro hu hb)
    clear hu hb
    by_cases hlt : j < a.size
    · go_wp2_with (fail)
      refine (tis (a.extract j (j + 1)) (by rw [ext_len (by omega)]; omega) _).mono ?_
      rintro e W1 ⟨rfl, h1⟩
      rw [isT_one a j hlt]
      have H1 := Lib.hid (gr_call HU.out.2 h1)
      clear h1
      by_cases ht : tokB (byS a j) = true
      · have hn : Hid (UpTo (fun x => !tokB (byS a x)) a.size (j + 1)) := Lib.hid (upto_next HU.out.1 hlt (by simp [ht]))
        rw [ht]
        clear ht
        go_wp2_with (fail)
        exact ⟨⟨j + 1, hn.out, by go_num, H1.out⟩, by simp [intOf]; omega⟩
      · have hn : Hid (firstN (fun x => !tokB (byS a x)) a.size = j) := Lib.hid (upto_end HU.out.1 (fun _ => by simp [ht]))
        rw [Bool.eq_false_iff.2 ht]
        clear ht
        go_wp2_with (fail)
        go_ret
        refine ⟨?_, H1.out⟩
        unfold atA; rw [hn.out] <;> rfl
    · have hn : Hid (firstN (fun x => !tokB (byS a x)) a.size = j) := Lib.hid (upto_end HU.out.1 (fun h => absurd h hlt))
      have e : j = a.size := by omega
      go_wp2_with (fail)
      go_ret
      refine ⟨?_, HU.out.2⟩
      unfold atA; rw [hn.out, e] <;> rfl

set_option maxRecDepth 100000 in
set_option maxHeartbeats 2000000 in
theorem bchar (c : Nat) (hc : c < 256) (w : World) : Calls Tryd.prog 43 #[.int .u8 (c : Int)] w fun e W' => e = .returned (.bool (chrB c)) ∧ W' = w := by
  by_cases h1 : 33 ≤ c
  · by_cases h2 : c ≤ 126
    · by_cases h3 : c = 35
      · have q : ((c : Int) != 35) = false := by simp; omega
        have k : Hid (chrB c = false) := Lib.hid (decide_eq_false (by omega))
        clear h3
        go_enter Tryd.func43, Tryd.ntmps43
        go_wp2_with (fail)
        go_ret
        rw [k.out]; first | exact ⟨rfl, rfl⟩ | exact ⟨by rw [q]; rfl, rfl⟩ | (simp [q]; rfl)
      · have q : ((c : Int) != 35) = true := by simp; omega
        have k : Hid (chrB c = true) := Lib.hid (decide_eq_true (by omega))
        clear h3
        go_enter Tryd.func43, Tryd.ntmps43
        go_wp2_with (fail)
        go_ret
        rw [k.out]; first | exact ⟨rfl, rfl⟩ | exact ⟨by rw [q]; rfl, rfl⟩ | (simp [q]; rfl)
    · have k : Hid (chrB c = false) := Lib.hid (decide_eq_false (by omega))
      go_enter Tryd.func43, Tryd.ntmps43
      go_wp2_with (fail)
      go_ret
      rw [k.out]; exact ⟨rfl, rfl⟩
  · have k : Hid (chrB c = false) := Lib.hid (decide_eq_false (by omega))
    go_enter Tryd.func43, Tryd.ntmps43
    go_wp2_with (fail)
    go_ret
    rw [k.out]; exact ⟨rfl, rfl⟩

set_option maxRecDepth 100000 in
set_option maxHeartbeats 4000000 in
theorem btarget (a b c : ByteArray) (N : Int) (ha : b.size ≤ 1000000) (w : World) :
    Calls Tryd.prog 35 #[.agg #[.string a, .string b, .string c, .int .i64 N]] w fun e W' => e = .returned (.int .i64 (atB b : Int)) ∧ Below w.heap.size w W' := by
  have z0 := gr_alloc (Below.refl w.heap.size w) (.cells #[.string a, .string b, .string c, .int .i64 N] 54)
  have b0 := Blk.new w 54 #[.string a, .string b, .string c, .int .i64 N]
  have u0 := b0.cell' (i := 0) rfl
  have u1 := b0.cell' (i := 1) rfl
  have u2 := b0.cell' (i := 2) rfl
  have u3 := b0.cell' (i := 3) rfl
  have ul := b0.lt
  have HZ := Lib.hid z0
  clear z0 b0
  obtain ⟨P, hP⟩ : ∃ P : Nat → Bool, P = fun x => !chrB (byS b x) || (decide (x = 0) && decide (byS b x ≠ 47)) := ⟨_, rfl⟩
  have HP : Hid (firstN P b.size = atB b) := Lib.hid (by rw [hP]; rfl)
  go_enter Tryd.func35, Tryd.ntmps35
  go_wp2_with (fail)
  clear u0 u1 u2 u3 ul
  go_loopw [11] (fun k wr => UpRel P b.size w k wr) (fun k _ => b.size - (intOf k).toNat)
  case atStart => exact ⟨0, upto_zero _ _, rfl, HZ.out⟩
  case round =>
    obtain ⟨j, hu, rfl, hb⟩ := hrel
    have hj := hu.1
    have HU := Lib.hid (And.intro hu hb)
    clear hu hb
    by_cases hlt : j < b.size
    · obtain ⟨d, hd⟩ : ∃ d, d = byS b j := ⟨_, rfl⟩
      have e1 := fun h' => get_byS b j h'
      simp only [← hd] at e1
      have hd2 : d < 256 := by rw [hd]; exact byS_lt b j
      have hPj : P j = (!chrB d || (decide (j = 0) && decide (d ≠ 47))) := by rw [hP, hd]
      have HPJ := Lib.hid hPj
      clear hPj hd hP
      go_wp2_with (fail)
      refine (bchar d hd2 _).mono ?_
      rintro e W1 ⟨rfl, rfl⟩
      cases hc : chrB d
      · have hn : Hid (firstN P b.size = j) := Lib.hid (upto_end HU.out.1 (fun _ => by rw [HPJ.out, hc]; rfl))
        clear hc
        go_wp2_with (fail)
        go_ret
        refine ⟨?_, HU.out.2⟩
        rw [← HP.out, hn.out] <;> rfl
      · by_cases h0 : j = 0
        · subst h0
          by_cases h47 : d = 47
          · have q : ((d : Int) == 47) = true := by simp; omega
            have hn : Hid (UpTo P b.size (0 + 1)) := Lib.hid (upto_next HU.out.1 hlt (by rw [HPJ.out, hc, h47]; rfl))
            clear hc h47
            go_wp2_with (fail)
            exact ⟨⟨0 + 1, hn.out, by go_num, HU.out.2⟩, by simp [intOf]; omega⟩
          · have q : ((d : Int) == 47) = false := by simp; omega
            have hn : Hid (firstN P b.size = 0) := Lib.hid (upto_end HU.out.1 (fun _ => by rw [HPJ.out, hc]; simp [h47]))
            clear hc h47
            go_wp2_with (fail)
            go_ret
            refine ⟨?_, HU.out.2⟩
            rw [← HP.out, hn.out] <;> rfl
        · have hn : Hid (UpTo P b.size (j + 1)) := Lib.hid (upto_next HU.out.1 hlt (by rw [HPJ.out, hc, decide_eq_false h0]; rfl))
          have q : ((j : Int) == 0) = false := by simp; omega
          clear hc h0
          go_wp2_with (fail)
          exact ⟨⟨j + 1, hn.out, by go_num, HU.out.2⟩, by simp [intOf]; omega⟩
    · have hn : Hid (firstN P b.size = j) := Lib.hid (upto_end HU.out.1 (fun h => absurd h hlt))
      have e : j = b.size := by omega
      clear hP
      go_wp2_with (fail)
      go_ret
      refine ⟨?_, HU.out.2⟩
      rw [← HP.out, hn.out, e] <;> rfl

set_option maxRecDepth 100000 in
set_option maxHeartbeats 4000000 in
theorem bversion (a b c : ByteArray) (N : Int) (ha : c.size ≤ 1000000) (w : World) :
    Calls Tryd.prog 39 #[.agg #[.string a, .string b, .string c, .int .i64 N]] w fun e W' => e = .returned (.int .i64 (atC c : Int)) ∧ Below w.heap.size w W' := by
  have z0 := gr_alloc (Below.refl w.heap.size w) (.cells #[.string a, .string b, .string c, .int .i64 N] 54)
  have b0 := Blk.new w 54 #[.string a, .string b, .string c, .int .i64 N]
  have u0 := b0.cell' (i := 0) rfl
  have u1 := b0.cell' (i := 1) rfl
  have u2 := b0.cell' (i := 2) rfl
  have u3 := b0.cell' (i := 3) rfl
  have ul := b0.lt
  have HZ := Lib.hid z0
  clear z0 b0
  obtain ⟨P, hP⟩ : ∃ P : Nat → Bool, P = fun x => decide (8 ≤ x) || decide (byS c x ≠ verB x) := ⟨_, rfl⟩
  have HP : Hid (firstN P c.size = atC c) := Lib.hid (by rw [hP]; rfl)
  go_enter Tryd.func39, Tryd.ntmps39
  go_wp2_with (fail)
  clear u0 u1 u2 u3 ul
  go_loopw [11] (fun k wr => UpRel P c.size w k wr) (fun k _ => c.size - (intOf k).toNat)
  case atStart => exact ⟨0, upto_zero _ _, rfl, HZ.out⟩
  case round =>
    obtain ⟨j, hu, rfl, hb⟩ := hrel
    have hj := hu.1
    have HU := Lib.hid (And.intro hu hb)
    clear hu hb
    by_cases hlt : j < c.size
    · obtain ⟨d, hd⟩ : ∃ d, d = byS c j := ⟨_, rfl⟩
      have e1 := fun h' => get_byS c j h'
      simp only [← hd] at e1
      have hPj : P j = (decide (8 ≤ j) || decide (d ≠ verB j)) := by rw [hP, hd]
      have HPJ := Lib.hid hPj
      clear hPj hd hP
      by_cases h8 : (8 : Int) ≤ (j : Int)
      · have hn : Hid (firstN P c.size = j) := Lib.hid (upto_end HU.out.1 (fun _ => by rw [HPJ.out, decide_eq_true (show 8 ≤ j by omega)]; rfl))
        go_wp2_with (fail)
        go_quiet (fail)
        go_wp2_with (fail)
        go_ret
        refine ⟨?_, below_drewN HU.out.2 _⟩
        rw [← HP.out, hn.out] <;> rfl
      · obtain ⟨v, hv⟩ : ∃ v, v = verB j := ⟨_, rfl⟩
        have e2 := fun h' => ver_get j (by omega) h'
        simp only [← hv] at e2
        by_cases he : d = v
        · have q : ((d : Int) != (v : Int)) = false := by simp; omega
          have hn : Hid (UpTo P c.size (j + 1)) := Lib.hid (upto_next HU.out.1 hlt (by rw [HPJ.out, decide_eq_false (show ¬ 8 ≤ j by omega), ← hv, he]; simp))
          clear he hv
          go_wp2_with (fail)
          go_quiet (fail)
          go_wp2_with (fail)
          exact ⟨⟨j + 1, hn.out, by go_num, below_drewN HU.out.2 _⟩, by simp [intOf]; omega⟩
        · have q : ((d : Int) != (v : Int)) = true := by simp; omega
          have hn : Hid (firstN P c.size = j) := Lib.hid (upto_end HU.out.1 (fun _ => by rw [HPJ.out, ← hv]; simp [he]))
          clear he hv
          go_wp2_with (fail)
          go_quiet (fail)
          go_wp2_with (fail)
          go_ret
          refine ⟨?_, below_drewN HU.out.2 _⟩
          rw [← HP.out, hn.out] <;> rfl
    · have hn : Hid (firstN P c.size = j) := Lib.hid (upto_end HU.out.1 (fun h => absurd h hlt))
      have e : j = c.size := by omega
      clear hP
      go_wp2_with (fail)
      go_ret
      refine ⟨?_, HU.out.2⟩
      rw [← HP.out, hn.out, e] <;> rfl
end Go.Proofs.YtllhcfgddcjfkaaDoor
