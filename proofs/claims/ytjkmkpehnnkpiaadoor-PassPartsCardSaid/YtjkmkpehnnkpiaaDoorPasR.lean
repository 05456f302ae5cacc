/-
  Next of passes, of the program and of the reference, walked: the plain functions; condition: the two tables lie as they are laid.
-/
import Derived.Test.YtjkmkpehnnkpiaaDoorPasQ
namespace Go.Proofs.YtjkmkpehnnkpiaaDoor
open Go.RowKit Go.Joins Go.Shelf
set_option linter.unusedVariables false
set_option linter.unusedSimpArgs false

/-- The error of Next. -/
def nextE (F : Nat → Flg) (n : Nat) (t : Int) (e : Bool) : Int := if passE F n t e = 0 then (if t = n then 9 else 0) else passE F n t e

set_option maxRecDepth 100000 in
set_option maxHeartbeats 4000000 in
theorem pnext_bad (F : Nat → Flg) (hF : SkipOk F) (A : Option Addr) (n c : Nat) (t : Int) (en h : Bool) (ht : -9223372036854775808 ≤ t ∧ t ≤ 9223372036854775807) (hn : n ≤ 1000000) (w : World) (hT : Tabs w) (hA : Cells w A 10 n (flgAt F)) (he : nextE F n t en ≠ 0) :
    Calls Tryd.prog 22 #[.agg #[.slice A n c, .int .i64 t, .bool en], .bool h] w fun e W' => e = .returned (.tuple #[.agg #[.slice none 0 0, .int .i64 0, .bool false], .int .i64 (nextE F n t en)]) ∧ Below w.heap.size w W' := by
  have HA := Lib.hid (And.intro hA (And.intro hF (And.intro hT ht)))
  clear hA hF hT ht
  have z0 := gr_alloc (gr_alloc (Below.refl w.heap.size w) (.cells #[.slice A n c, .int .i64 t, .bool en] 30)) (.cells #[.slice none 0 0, .int .i64 0, .bool false] 30)
  have f0 : Blk ((w.alloc (.cells #[.slice A n c, .int .i64 t, .bool en] 30)).alloc (.cells #[.slice none 0 0, .int .i64 0, .bool false] 30)) (w.heap.size + 1) 30 #[.slice none 0 0, .int .i64 0, .bool false] := blk_at (by simp)
  have H0 := Lib.hid (And.intro z0 f0)
  clear z0 f0
  go_enter Tryd.func22, Tryd.ntmps22
  go_wp2_with (fail)
  refine (pover2 F HA.out.2.1 A n c t en HA.out.2.2.2 hn _ (HA.out.2.2.1.below H0.out.1 (Nat.le_refl _)) (HA.out.1.below H0.out.1)).mono ?_
  rintro e W1 ⟨rfl, h1⟩
  have y := H0.out.2.call h1
  have y0 := y.cell' (i := 0) rfl
  have y1 := y.cell' (i := 1) rfl
  have y2 := y.cell' (i := 2) rfl
  have yf0 := y.frozen 0
  have yf1 := y.frozen 1
  have yf2 := y.frozen 2
  have hl := y.lt
  have HB := Lib.hid (gr_call H0.out.1 h1)
  clear y h1 H0
  by_cases hz : passE F n t en = 0
  · have htn : t = n := by
      unfold nextE at he
      rw [if_pos hz] at he
      by_cases h' : t = n
      · exact h'
      · rw [if_neg h'] at he; exact absurd rfl he
    have e1 : overV F n t en = true := by unfold overV; rw [decide_eq_true hz, htn]; simp
    have e2 : nextE F n t en = 9 := by unfold nextE; rw [if_pos hz, if_pos htn]
    rw [hz, e1]
    have HE := Lib.hid e2
    clear hz e1 e2 he htn
    go_wp2_with (fail)
    refine bodyPost_ret (v := .tuple #[.agg #[.slice none 0 0, .int .i64 0, .bool false], .int .i64 9]) (by simp [results, Tryd.results22, go_sem, y0, y1, y2, hl]) rfl ⟨by rw [HE.out], ?_⟩
    exact gr_set (gr_set (gr_set HB.out (by simp) _) (by simp) _) (by simp) _
  · have e2 : nextE F n t en = passE F n t en := by unfold nextE; rw [if_neg hz]
    generalize passE F n t en = x at hz e2 ⊢
    have hxb : (x == 0) = false := beq_eq_false_iff_ne.2 hz
    have HE := Lib.hid e2
    clear e2 he
    go_wp2_with (fail)
    refine bodyPost_ret (v := .tuple #[.agg #[.slice none 0 0, .int .i64 0, .bool false], .int .i64 x]) (by simp [results, Tryd.results22, go_sem, y0, y1, y2, hl]) rfl ⟨by rw [HE.out], ?_⟩
    exact gr_set (gr_set (gr_set HB.out (by simp) _) (by simp) _) (by simp) _

theorem next_zero {F : Nat → Flg} {n : Nat} {t : Int} {e : Bool} (h : nextE F n t e = 0) : ∃ k : Nat, t = k ∧ k < n ∧ e = false ∧ passE F n t e = 0 := by
  unfold nextE at h
  by_cases hz : passE F n t e = 0
  · rw [if_pos hz] at h
    obtain ⟨_, h0, h1, h2⟩ := passE_zero hz
    have hne : t ≠ n := by
      intro e1
      rw [if_pos e1] at h; cases h
    obtain ⟨k, rfl⟩ := Int.eq_ofNat_of_zero_le h0
    refine ⟨k, rfl, by omega, ?_, hz⟩
    cases e with
    | false => rfl
    | true => exact absurd (h2 rfl) hne
  · rw [if_neg hz] at h; exact absurd h hz

set_option maxRecDepth 100000 in
set_option maxHeartbeats 4000000 in
theorem pnext_ok (F : Nat → Flg) (hF : SkipOk F) (A : Option Addr) (n c k : Nat) (h : Bool) (hn : n ≤ 1000000) (hk : k < n) (w : World) (hT : Tabs w) (hO : ArgOk A n c) (hA : Cells w A 10 n (flgAt F)) (he : passE F n (k : Int) false = 0) :
    Calls Tryd.prog 22 #[.agg #[.slice A n c, .int .i64 (k : Int), .bool false], .bool h] w fun e W' => ∃ B d, e = .returned (.tuple #[.agg #[.slice B n d, .int .i64 (nextP F n k h : Int), .bool (overP F k h)], .int .i64 0]) ∧ Cells W' B 10 n (flgAt F) ∧ ArgOk B n d ∧ Below w.heap.size w W' := by
  obtain ⟨s0, s1, _, _⟩ := chkF_zero (flags_zero (passE_zero he).1 hk).1
  have HA := Lib.hid (And.intro hA (And.intro hF (And.intro hT hO)))
  clear hA hF hT hO
  have z0 := gr_alloc (gr_alloc (Below.refl w.heap.size w) (.cells #[.slice A n c, .int .i64 (k : Int), .bool false] 30)) (.cells #[.slice none 0 0, .int .i64 0, .bool false] 30)
  have g0 := (Blk.new w 30 #[.slice A n c, .int .i64 (k : Int), .bool false]).alloc (.cells #[.slice none 0 0, .int .i64 0, .bool false] 30)
  have f0 : Blk ((w.alloc (.cells #[.slice A n c, .int .i64 (k : Int), .bool false] 30)).alloc (.cells #[.slice none 0 0, .int .i64 0, .bool false] 30)) (w.heap.size + 1) 30 #[.slice none 0 0, .int .i64 0, .bool false] := blk_at (by simp)
  have H0 := Lib.hid (And.intro z0 (And.intro g0 f0))
  clear z0 f0 g0
  go_enter Tryd.func22, Tryd.ntmps22
  go_wp2_with (fail)
  refine (pover2 F HA.out.2.1 A n c k false (by omega) hn _ (HA.out.2.2.1.below H0.out.1 (Nat.le_refl _)) (HA.out.1.below H0.out.1)).mono ?_
  rintro e W1 ⟨rfl, h1⟩
  have e1 : overV F n (k : Int) false = false := by unfold overV; rw [beq_eq_false_iff_ne.2 (by omega)]; simp
  rw [he, e1]
  have M0 := gr_alloc (gr_call H0.out.1 h1) (.cells #[.slice A n c, .int .i64 (k : Int), .bool false] 65)
  have M1 := (H0.out.2.1.call h1)
  have M2 := (H0.out.2.2.call h1).alloc (.cells #[.slice A n c, .int .i64 (k : Int), .bool false] 65)
  have hws : w.heap.size + 1 < W1.heap.size := (H0.out.2.2.call h1).lt
  have M3 := Blk.new W1 65 #[.slice A n c, .int .i64 (k : Int), .bool false]
  have u0 := M1.cell' (i := 0) rfl
  have u1 := M1.cell' (i := 1) rfl
  have u2 := M1.cell' (i := 2) rfl
  have ul := M1.lt
  have H1 := Lib.hid (And.intro M0 (And.intro M2 M3))
  clear M0 M1 M2 M3 h1 H0 e1 he
  go_wp2_with (fail)
  refine (powns F A n c hn _ HA.out.2.2.2 (HA.out.1.below H1.out.1)).mono ?_
  rintro e W2 ⟨B, d, rfl, k1, k2, k3, k4⟩
  have N0 := gr_call H1.out.1 k3
  have N2 := H1.out.2.1.call k3
  have N3 := H1.out.2.2.call k3
  have hBk : ∀ a, B = some a → W1.heap.size < a.block := fun a ha => by have := (k4 a ha).1; simp at this; omega
  have v0 := N3.cell' (i := 0) rfl
  have vf := N3.frozen 0
  have vl := N3.lt
  have H2 := Lib.hid (And.intro N0 (And.intro N2 (And.intro N3 (And.intro k1 (And.intro k2 hBk)))))
  clear N0 N2 N3 k1 k2 k3 k4 hBk H1 u0 u1 u2 ul
  go_wp2_with (fail)
  have hm : Blk (W2.setCell ⟨W1.heap.size, 0, none⟩ (.slice B n d)) W1.heap.size 65 #[.slice B n d, .int .i64 (k : Int), .bool false] := H2.out.2.2.1.set_ 0 (.slice B n d)
  have hcl : Cells (W2.setCell ⟨W1.heap.size, 0, none⟩ (.slice B n d)) B 10 n (flgAt F) := H2.out.2.2.2.1.far (fun a ha => by have := H2.out.2.2.2.2.2 a ha; omega) 0 (.slice B n d)
  have hz : Below w.heap.size w (W2.setCell ⟨W1.heap.size, 0, none⟩ (.slice B n d)) := gr_set H2.out.1 (by simp; omega) _
  have hr : Blk (W2.setCell ⟨W1.heap.size, 0, none⟩ (.slice B n d)) (w.heap.size + 1) 30 #[.slice none 0 0, .int .i64 0, .bool false] := H2.out.2.1.far (p := ⟨W1.heap.size, 0, none⟩) (by simp; omega) _
  have H3 := Lib.hid (And.intro hz (And.intro hr hcl))
  refine (ptry F W1.heap.size 65 #[.slice B n d, .int .i64 (k : Int), .bool false] B n d k hn hk h ⟨s0, s1⟩ _ hcl (fun a ha => by have := H2.out.2.2.2.2.2 a ha; omega) hm rfl rfl rfl).mono ?_
  rintro e W3 ⟨rfl, m1, m2⟩
  have m1 : Blk W3 W1.heap.size 65 #[.slice B n d, .int .i64 (nextP F n k h : Int), .bool (overP F k h)] := m1
  have z3 : Below w.heap.size w W3 := below_only_trans H3.out.1 m2 (by have := H3.out.1.size; exact this) (fun q e => by cases e; omega)
  have r3 := H3.out.2.1.grown m2 (by intro e; injection e with e; omega)
  have c3 : Cells W3 B 10 n (flgAt F) := H3.out.2.2.grown m2 (fun a q e1 e2 => by cases e2; have := H2.out.2.2.2.2.2 a e1; omega)
  have t0 := m1.cell' (i := 0) rfl
  have t1 := m1.cell' (i := 1) rfl
  have t2 := m1.cell' (i := 2) rfl
  have tl := m1.lt
  have y0 := r3.cell' (i := 0) rfl
  have y1 := r3.cell' (i := 1) rfl
  have y2 := r3.cell' (i := 2) rfl
  have yf0 := r3.frozen 0
  have yf1 := r3.frozen 1
  have yf2 := r3.frozen 2
  have yl := r3.lt
  have H4 := Lib.hid (And.intro z3 (And.intro c3 (And.intro H2.out.2.2.2.2.1 H2.out.2.2.2.2.2)))
  clear m1 m2 z3 r3 c3 hm hcl hz hr H3 H2 v0 vf vl
  go_wp2_with (fail)
  refine bodyPost_ret (v := .tuple #[.agg #[.slice B n d, .int .i64 (nextP F n k h : Int), .bool (overP F k h)], .int .i64 0]) (by simp [results, Tryd.results22, go_sem, y0, y1, y2, yl]) rfl ⟨B, d, rfl, ?_, H4.out.2.2.1, ?_⟩
  · have hfar : ∀ a, B = some a → a.block ≠ w.heap.size + 1 := fun a ha => by have := H4.out.2.2.2 a ha; omega
    exact ((H4.out.2.1.far hfar 0 _).far hfar 1 _).far hfar 2 _
  · exact gr_set (gr_set (gr_set H4.out.1 (by simp) _) (by simp) _) (by simp) _

set_option maxRecDepth 100000 in
set_option maxHeartbeats 4000000 in
theorem rnext_bad (F : Nat → Flg) (hF : SkipOk F) (A : Option Addr) (n c : Nat) (t : Int) (en h : Bool) (ht : -9223372036854775808 ≤ t ∧ t ≤ 9223372036854775807) (hn : n ≤ 1000000) (w : World) (hA : Cells w A 10 n (flgAt F)) (he : nextE F n t en ≠ 0) :
    Calls Tryd.prog 23 #[.agg #[.slice A n c, .int .i64 t, .bool en], .bool h] w fun e W' => e = .returned (.tuple #[.agg #[.slice none 0 0, .int .i64 0, .bool false], .int .i64 (nextE F n t en)]) ∧ Below w.heap.size w W' := by
  have HA := Lib.hid (And.intro hA (And.intro hF ht))
  clear hA hF ht
  have z0 := gr_alloc (gr_alloc (Below.refl w.heap.size w) (.cells #[.slice A n c, .int .i64 t, .bool en] 30)) (.cells #[.slice none 0 0, .int .i64 0, .bool false] 30)
  have g0 := (Blk.new w 30 #[.slice A n c, .int .i64 t, .bool en]).alloc (.cells #[.slice none 0 0, .int .i64 0, .bool false] 30)
  have f0 : Blk ((w.alloc (.cells #[.slice A n c, .int .i64 t, .bool en] 30)).alloc (.cells #[.slice none 0 0, .int .i64 0, .bool false] 30)) (w.heap.size + 1) 30 #[.slice none 0 0, .int .i64 0, .bool false] := blk_at (by simp)
  have H0 := Lib.hid (And.intro z0 (And.intro g0 f0))
  clear z0 f0 g0
  go_enter Tryd.func23, Tryd.ntmps23
  go_wp2_with (fail)
  refine (rcheckP F HA.out.2.1 A n c t en HA.out.2.2 hn _ (HA.out.1.below H0.out.1)).mono ?_
  rintro e W1 ⟨rfl, h1⟩
  have y := H0.out.2.2.call h1
  have u := H0.out.2.1.call h1
  have u0 := u.cell' (i := 0) rfl
  have u1 := u.cell' (i := 1) rfl
  have ul := u.lt
  have y0 := y.cell' (i := 0) rfl
  have y1 := y.cell' (i := 1) rfl
  have y2 := y.cell' (i := 2) rfl
  have yf0 := y.frozen 0
  have yf1 := y.frozen 1
  have yf2 := y.frozen 2
  have hl := y.lt
  have HB := Lib.hid (gr_call H0.out.1 h1)
  clear y h1 H0 u
  by_cases hz : passE F n t en = 0
  · have htn : t = n := by
      unfold nextE at he
      rw [if_pos hz] at he
      by_cases h' : t = n
      · exact h'
      · rw [if_neg h'] at he; exact absurd rfl he
    have e2 : nextE F n t en = 9 := by unfold nextE; rw [if_pos hz, if_pos htn]
    rw [hz]
    have HE := Lib.hid e2
    clear hz e2 he
    subst htn
    go_wp2_with (fail)
    refine bodyPost_ret (v := .tuple #[.agg #[.slice none 0 0, .int .i64 0, .bool false], .int .i64 9]) (by simp [results, Tryd.results23, go_sem, y0, y1, y2, hl]) rfl ⟨by rw [HE.out], ?_⟩
    exact gr_set (gr_set (gr_set HB.out (by simp) _) (by simp) _) (by simp) _
  · have e2 : nextE F n t en = passE F n t en := by unfold nextE; rw [if_neg hz]
    generalize passE F n t en = x at hz e2 ⊢
    have hxb : (x == 0) = false := beq_eq_false_iff_ne.2 hz
    have HE := Lib.hid e2
    clear e2 he
    go_wp2_with (fail)
    refine bodyPost_ret (v := .tuple #[.agg #[.slice none 0 0, .int .i64 0, .bool false], .int .i64 x]) (by simp [results, Tryd.results23, go_sem, y0, y1, y2, hl]) rfl ⟨by rw [HE.out], ?_⟩
    exact gr_set (gr_set (gr_set HB.out (by simp) _) (by simp) _) (by simp) _
end Go.Proofs.YtjkmkpehnnkpiaaDoor
