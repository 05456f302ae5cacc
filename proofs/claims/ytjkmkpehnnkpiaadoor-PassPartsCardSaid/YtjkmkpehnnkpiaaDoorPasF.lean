/-
  pass.After and the reference's, walked: the plain functions; condition: the two tables lie as they are laid.
-/
import Derived.Test.YtjkmkpehnnkpiaaDoorPasE
namespace Go.Proofs.YtjkmkpehnnkpiaaDoor
open Go.RowKit Go.Joins
set_option linter.unusedVariables false
set_option linter.unusedSimpArgs false

theorem flags_zero {F : Nat → Flg} {n k : Nat} (h : flagsE F n = 0) (hk : k < n) : chkF (F k) = 0 ∧ n ≤ 64 := by
  unfold flagsE at h
  by_cases h64 : 64 < n
  · rw [if_pos h64] at h; cases h
  · rw [if_neg h64] at h
    exact ⟨chkL_zero h k hk, by omega⟩

set_option maxRecDepth 100000 in
set_option maxHeartbeats 4000000 in
theorem pafter (F : Nat → Flg) (hF : SkipOk F) (A : Option Addr) (n c : Nat) (r : Int) (hr : -9223372036854775808 ≤ r ∧ r ≤ 9223372036854775807) (h : Bool) (hn : n ≤ 1000000) (w : World) (hT : Tabs w) (hA : ArgOk A n c) (hc : Cells w A 10 n (flgAt F)) :
    Calls Tryd.prog 11 #[.slice A n c, .int .i64 r, .bool h] w fun e W' => e = .returned (.tuple #[.int .i64 (afterV F n r h), .int .i64 (afterE F n r)]) ∧ Below w.heap.size w W' := by
  obtain ⟨hr1, hr2⟩ := hr
  have HA := Lib.hid (And.intro hA (And.intro hc (And.intro hF hT)))
  clear hA hc hF hT
  go_enter Tryd.func11, Tryd.ntmps11
  go_wp2_with (fail)
  refine (pstart F HA.out.2.2.1 A n c hn _ HA.out.2.2.2 HA.out.1 HA.out.2.1).mono ?_
  rintro e W1 ⟨B, d, rfl, k1, k2, k3, k4⟩
  by_cases he : flagsE F n = 0
  · have hs : startN F n = n := by unfold startN; rw [if_pos he]
    rw [hs] at k1 k2 ⊢
    rw [he]
    have z1 := gr_alloc k3 (.cells #[.slice B n d, .int .i64 0, .bool false] 30)
    have g1 := Blk.new W1 30 #[.slice B n d, .int .i64 0, .bool false]
    have x0 := g1.cell' (i := 0) rfl
    have x1 := g1.cell' (i := 1) rfl
    have x2 := g1.cell' (i := 2) rfl
    have HE := Lib.hid (And.intro he (And.intro k1 (And.intro k2 (And.intro z1 k4))))
    clear he hs k1 k2 k3 k4 z1 g1
    by_cases h1 : r < 0
    · go_wp2_with (fail)
      go_ret2
      refine ⟨?_, HE.out.2.2.2.1⟩
      rw [show afterV F n r h = 0 from by unfold afterV; rw [if_neg (by omega)], show afterE F n r = 2 from by unfold afterE; rw [if_pos HE.out.1, if_neg (by omega)]]
      rfl
    by_cases h2 : (n : Int) ≤ r
    · go_wp2_with (fail)
      go_ret2
      refine ⟨?_, HE.out.2.2.2.1⟩
      rw [show afterV F n r h = 0 from by unfold afterV; rw [if_neg (by omega)], show afterE F n r = 2 from by unfold afterE; rw [if_pos HE.out.1, if_neg (by omega)]]
      rfl
    obtain ⟨k, rfl⟩ := Int.eq_ofNat_of_zero_le (by omega : 0 ≤ r)
    have hk : k < n := by omega
    obtain ⟨hz, h64⟩ := flags_zero HE.out.1 hk
    obtain ⟨s0, s1, _, _⟩ := chkF_zero hz
    clear hz
    go_wp2_with (fail)
    have b2 := HE.out.2.2.2.1
    have hblk : Blk (((W1.alloc (.cells #[.slice B n d, .int .i64 0, .bool false] 30)).alloc (.cells #[.slice B n d, .int .i64 (k : Int), .bool false] 65))) (W1.heap.size + 1) 65 #[.slice B n d, .int .i64 (k : Int), .bool false] := blk_at (by simp)
    have hcl := HE.out.2.1.below (gr_alloc (gr_alloc (Below.refl W1.heap.size W1) (.cells #[.slice B n d, .int .i64 0, .bool false] 30)) (.cells #[.slice B n d, .int .i64 (k : Int), .bool false] 65))
    obtain ⟨bb, bo, hBe, hBl, _⟩ := HE.out.2.1 (by omega)
    refine (ptry F (W1.heap.size + 1) 65 #[.slice B n d, .int .i64 (k : Int), .bool false] B n d k hn hk h ⟨s0, s1⟩ _ hcl (by intro a ha; rw [hBe] at ha; cases ha; simp; omega) hblk rfl rfl rfl).mono ?_
    rintro e W3 ⟨rfl, m1, m2⟩
    have m1 : Blk W3 (W1.heap.size + 1) 65 #[.slice B n d, .int .i64 (nextP F n k h : Int), .bool (overP F k h)] := m1
    have y1 := m1.cell' (i := 1) rfl
    have hl := m1.lt
    have hb3 : Below w.heap.size w W3 := (gr_alloc b2 _).grown m2 (by have := b2.size; simp at this ⊢; omega) (by intro q hq; cases hq; have := b2.size; simp at this; omega)
    have HF := Lib.hid hb3
    clear m1 m2 hb3 hblk hcl b2 hBe hBl x0 x1 x2
    go_wp2_with (fail)
    go_ret2
    refine ⟨?_, HF.out⟩
    rw [show afterV F n (k : Int) h = (nextP F n k h : Int) from by unfold afterV; rw [if_pos ⟨HE.out.1, by omega, by omega⟩]; simp, show afterE F n (k : Int) = 0 from by unfold afterE; rw [if_pos HE.out.1, if_pos ⟨by omega, by omega⟩]]
    rfl
  · have hs : startN F n = 0 := by unfold startN; rw [if_neg he]
    rw [hs] at k1 k2 ⊢
    have z1 := gr_alloc k3 (.cells #[.slice B 0 d, .int .i64 0, .bool false] 30)
    have e1 : afterV F n r h = 0 := by unfold afterV; rw [if_neg (fun h => he h.1)]
    have e2 : afterE F n r = flagsE F n := by unfold afterE; rw [if_neg he]
    have HE := Lib.hid (And.intro e1 (And.intro e2 z1))
    clear k1 k2 k3 k4 hs z1 e1 e2
    generalize hx : flagsE F n = x at he ⊢
    go_wp2_with (fail)
    go_ret2
    refine ⟨?_, HE.out.2.2⟩
    rw [HE.out.1, HE.out.2.1, hx]
    rfl

set_option maxRecDepth 100000 in
set_option maxHeartbeats 4000000 in
theorem rafter2 (F : Nat → Flg) (hF : SkipOk F) (A : Option Addr) (n c : Nat) (r : Int) (hr : -9223372036854775808 ≤ r ∧ r ≤ 9223372036854775807) (h : Bool) (hn : n ≤ 1000000) (w : World) (hc : Cells w A 10 n (flgAt F)) :
    Calls Tryd.prog 13 #[.slice A n c, .int .i64 r, .bool h] w fun e W' => e = .returned (.tuple #[.int .i64 (afterV F n r h), .int .i64 (afterE F n r)]) ∧ Below w.heap.size w W' := by
  obtain ⟨hr1, hr2⟩ := hr
  have HA := Lib.hid (And.intro hc hF)
  clear hc hF
  go_enter Tryd.func13, Tryd.ntmps13
  go_wp2_with (fail)
  refine (rflags F HA.out.2 A n c hn _ HA.out.1).mono ?_
  rintro e W1 ⟨rfl, k3⟩
  by_cases he : flagsE F n = 0
  · rw [he]
    have HE := Lib.hid (And.intro he k3)
    clear he k3
    by_cases h1 : r < 0
    · go_wp2_with (fail)
      go_ret2
      refine ⟨?_, HE.out.2⟩
      rw [show afterV F n r h = 0 from by unfold afterV; rw [if_neg (by omega)], show afterE F n r = 2 from by unfold afterE; rw [if_pos HE.out.1, if_neg (by omega)]]
      rfl
    by_cases h2 : (n : Int) ≤ r
    · go_wp2_with (fail)
      go_ret2
      refine ⟨?_, HE.out.2⟩
      rw [show afterV F n r h = 0 from by unfold afterV; rw [if_neg (by omega)], show afterE F n r = 2 from by unfold afterE; rw [if_pos HE.out.1, if_neg (by omega)]]
      rfl
    obtain ⟨k, rfl⟩ := Int.eq_ofNat_of_zero_le (by omega : 0 ≤ r)
    have hk : k < n := by omega
    have hz := (flags_zero HE.out.1 hk).1
    go_wp2_with (fail)
    refine (rafter F A n c k hn hk hz h _ (HA.out.1.below HE.out.2)).mono ?_
    rintro e W2 ⟨rfl, b2⟩
    have HF := Lib.hid (gr_call HE.out.2 b2)
    clear b2 hz
    go_wp2_with (fail)
    go_ret2
    refine ⟨?_, HF.out⟩
    rw [show afterV F n (k : Int) h = (nextP F n k h : Int) from by unfold afterV; rw [if_pos ⟨HE.out.1, by omega, by omega⟩]; simp, show afterE F n (k : Int) = 0 from by unfold afterE; rw [if_pos HE.out.1, if_pos ⟨by omega, by omega⟩]]
    rfl
  · have e1 : afterV F n r h = 0 := by unfold afterV; rw [if_neg (fun h => he h.1)]
    have e2 : afterE F n r = flagsE F n := by unfold afterE; rw [if_neg he]
    have HE := Lib.hid (And.intro e1 (And.intro e2 k3))
    clear k3 e1 e2
    generalize hx : flagsE F n = x at he ⊢
    go_wp2_with (fail)
    go_ret2
    refine ⟨?_, HE.out.2.2⟩
    rw [HE.out.1, HE.out.2.1, hx]
    rfl
end Go.Proofs.YtjkmkpehnnkpiaaDoor
