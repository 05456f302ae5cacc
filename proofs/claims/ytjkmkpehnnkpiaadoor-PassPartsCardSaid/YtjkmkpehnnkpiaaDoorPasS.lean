/-
  The reference's Next and Start, walked: the plain functions; no condition.
-/
import Derived.Test.YtjkmkpehnnkpiaaDoorPasR
namespace Go.Proofs.YtjkmkpehnnkpiaaDoor
open Go.RowKit Go.Joins Go.Shelf
set_option linter.unusedVariables false
set_option linter.unusedSimpArgs false

set_option maxRecDepth 100000 in
set_option maxHeartbeats 4000000 in
theorem rnext_ok (F : Nat → Flg) (hF : SkipOk F) (A : Option Addr) (n c k : Nat) (h : Bool) (hn : n ≤ 1000000) (hk : k < n) (w : World) (hO : ArgOk A n c) (hA : Cells w A 10 n (flgAt F)) (he : passE F n (k : Int) false = 0) :
    Calls Tryd.prog 23 #[.agg #[.slice A n c, .int .i64 (k : Int), .bool false], .bool h] w fun e W' => ∃ B d, e = .returned (.tuple #[.agg #[.slice B n d, .int .i64 (nextP F n k h : Int), .bool (overP F k h)], .int .i64 0]) ∧ Cells W' B 10 n (flgAt F) ∧ ArgOk B n d ∧ Below w.heap.size w W' := by
  obtain ⟨i1, hi1, hz10, hz11, hz12⟩ := info_parts infoFlg
  have hck := (flags_zero (passE_zero he).1 hk).1
  have HA := Lib.hid (And.intro hA (And.intro hF (And.intro hO hck)))
  clear hA hF hO hck
  have z0 := gr_alloc (gr_alloc (Below.refl w.heap.size w) (.cells #[.slice A n c, .int .i64 (k : Int), .bool false] 30)) (.cells #[.slice none 0 0, .int .i64 0, .bool false] 30)
  have g0 := (Blk.new w 30 #[.slice A n c, .int .i64 (k : Int), .bool false]).alloc (.cells #[.slice none 0 0, .int .i64 0, .bool false] 30)
  have f0 : Blk ((w.alloc (.cells #[.slice A n c, .int .i64 (k : Int), .bool false] 30)).alloc (.cells #[.slice none 0 0, .int .i64 0, .bool false] 30)) (w.heap.size + 1) 30 #[.slice none 0 0, .int .i64 0, .bool false] := blk_at (by simp)
  have H0 := Lib.hid (And.intro z0 (And.intro g0 f0))
  clear z0 f0 g0
  go_enter Tryd.func23, Tryd.ntmps23
  go_wp2_with (fail)
  refine (rcheckP F HA.out.2.1 A n c k false (by omega) hn _ (HA.out.1.below H0.out.1)).mono ?_
  rintro e W1 ⟨rfl, h1⟩
  rw [he]
  have M0 := gr_call H0.out.1 h1
  have M1 := H0.out.2.1.call h1
  have M2 := H0.out.2.2.call h1
  have u0 := M1.cell' (i := 0) rfl
  have u1 := M1.cell' (i := 1) rfl
  have ul := M1.lt
  have ul2 := M2.lt
  have hkn : ¬ ((k : Int) = (n : Int)) := by omega
  have hknb : ((k : Int) == (n : Int)) = false := beq_eq_false_iff_ne.2 hkn
  have H1 := Lib.hid (And.intro M0 (And.intro M1 M2))
  clear M0 M1 M2 h1 H0 he hkn
  go_wp2_with (at_builtin; refine append_any rfl _ _ 22 rfl W1.heap.size 54 i1 _ 10 24 Tryd.underlying22 hi1 hz10 hz11 hz12 rfl (by decide) _ rfl (own_empty W1 W1.heap.size 54 10 (Nat.le_refl _)) A n c (flgAt F) rfl HA.out.2.2.1 ?c1 ?c2 ?c3 ?c4 ?c5 ?_)
  case c1 => exact HA.out.1.below (gr_alloc H1.out.1 _)
  case c2 => exact flgAt_one F
  case c3 => unfold maxLen; omega
  case c4 => omega
  case c5 => simp
  intro v1 W2 hown1 hgrow1
  have hgr : ∀ q, (Value.slice (some ⟨W1.heap.size, 0, none⟩) 0 0).ownBlock = some q → W1.heap.size ≤ q := by intro q hq; simp [Value.ownBlock] at hq; omega
  have b1 : Below W1.heap.size W1 W2 := (gr_alloc (Below.refl W1.heap.size W1) _).grown hgrow1 (by simp) hgr
  obtain ⟨B, d, rfl, q1, ok1⟩ := row_cells (by decide) hown1
  have fr : ∀ a, B = some a → W1.heap.size ≤ a.block ∧ a.block < W2.heap.size := fun a ha => hown1.lt a.block (by rw [ha]; rfl)
  have O0 := gr_alloc (gr_call H1.out.1 b1) (.cells #[.slice B n d, .int .i64 0, .bool false] 30)
  have O1 := (H1.out.2.1.call b1).alloc (.cells #[.slice B n d, .int .i64 0, .bool false] 30)
  have O2 := (H1.out.2.2.call b1).alloc (.cells #[.slice B n d, .int .i64 0, .bool false] 30)
  have O3 := Blk.new W2 30 #[.slice B n d, .int .i64 0, .bool false]
  have O4 := q1.below (gr_alloc (Below.refl _ _) (.cells #[.slice B n d, .int .i64 0, .bool false] 30))
  have v0 := (H1.out.2.1.call b1).cell' (i := 0) rfl
  have v1 := (H1.out.2.1.call b1).cell' (i := 1) rfl
  have vl := (H1.out.2.1.call b1).lt
  have hs12 := b1.size
  have H2 := Lib.hid (And.intro O0 (And.intro O1 (And.intro O2 (And.intro O3 (And.intro O4 (And.intro ok1 fr))))))
  clear O0 O1 O2 O3 O4 b1 q1 ok1 fr hown1 hgrow1 hgr H1 u0 u1
  go_wp2_with (fail)
  refine (rafter F A n c k hn hk HA.out.2.2.2 h _ (HA.out.1.below H2.out.1)).mono ?_
  rintro e W3 ⟨rfl, h3⟩
  have z3 := gr_call H2.out.1 h3
  have r3 := H2.out.2.2.1.call h3
  have o3 := H2.out.2.2.2.1.call h3
  have c3 := H2.out.2.2.2.2.1.below h3
  have t0 := o3.cell' (i := 0) rfl
  have t1 := o3.cell' (i := 1) rfl
  have t2 := o3.cell' (i := 2) rfl
  have tf1 := o3.frozen 1
  have tf2 := o3.frozen 2
  have tl := o3.lt
  have y0 := r3.cell' (i := 0) rfl
  have y1 := r3.cell' (i := 1) rfl
  have y2 := r3.cell' (i := 2) rfl
  have yf0 := r3.frozen 0
  have yf1 := r3.frozen 1
  have yf2 := r3.frozen 2
  have yl := r3.lt
  have H4 := Lib.hid (And.intro z3 (And.intro c3 (And.intro H2.out.2.2.2.2.2.1 H2.out.2.2.2.2.2.2)))
  clear h3 z3 r3 o3 c3 H2 v0 v1 vl
  generalize hnp : nextP F n k h = np
  generalize hov : overP F k h = ov
  have HN := Lib.hid (And.intro hnp hov)
  clear hnp hov
  have hne : W2.heap.size ≠ w.heap.size + 1 := by omega
  go_wp2_with (fail)
  refine bodyPost_ret (v := .tuple #[.agg #[.slice B n d, .int .i64 (np : Int), .bool ov], .int .i64 0]) (by simp [results, Tryd.results23, go_sem, y0, y1, y2, yl]) rfl ⟨B, d, by rw [HN.out.1, HN.out.2], ?_, H4.out.2.2.1, ?_⟩
  · have hfar : ∀ a, B = some a → a.block ≠ w.heap.size + 1 := fun a ha => by have := H4.out.2.2.2 a ha; omega
    have hfar2 : ∀ a, B = some a → a.block ≠ W2.heap.size := fun a ha => by have := H4.out.2.2.2 a ha; omega
    exact ((((H4.out.2.1.far hfar2 1 _).far hfar2 2 _).far hfar 0 _).far hfar 1 _).far hfar 2 _
  · exact gr_set (gr_set (gr_set (gr_set (gr_set H4.out.1 (by simp; omega) _) (by simp; omega) _) (by simp) _) (by simp) _) (by simp) _

set_option maxRecDepth 100000 in
set_option maxHeartbeats 4000000 in
theorem rstart (F : Nat → Flg) (hF : SkipOk F) (A : Option Addr) (n c : Nat) (hn : n ≤ 1000000) (w : World) (hO : ArgOk A n c) (hA : Cells w A 10 n (flgAt F)) :
    Calls Tryd.prog 16 #[.slice A n c] w fun e W' => ∃ B d, e = .returned (.tuple #[.agg #[.slice B (startN F n) d, .int .i64 0, .bool false], .int .i64 (flagsE F n)]) ∧ Cells W' B 10 (startN F n) (flgAt F) ∧ ArgOk B (startN F n) d ∧ Below w.heap.size w W' := by
  obtain ⟨i1, hi1, hz10, hz11, hz12⟩ := info_parts infoFlg
  have HA := Lib.hid (And.intro hA (And.intro hF hO))
  clear hA hF hO
  have z0 := gr_alloc (Below.refl w.heap.size w) (.cells #[.slice none 0 0, .int .i64 0, .bool false] 30)
  have f0 := Blk.new w 30 #[.slice none 0 0, .int .i64 0, .bool false]
  have H0 := Lib.hid (And.intro z0 f0)
  clear z0 f0
  go_enter Tryd.func16, Tryd.ntmps16
  go_wp2_with (fail)
  refine (rflags F HA.out.2.1 A n c hn _ (HA.out.1.below H0.out.1)).mono ?_
  rintro e W1 ⟨rfl, h1⟩
  have M0 := gr_call H0.out.1 h1
  have y := H0.out.2.call h1
  have y0 := y.cell' (i := 0) rfl
  have y1 := y.cell' (i := 1) rfl
  have y2 := y.cell' (i := 2) rfl
  have yf0 := y.frozen 0
  have yf1 := y.frozen 1
  have yf2 := y.frozen 2
  have hl := y.lt
  have H1 := Lib.hid (And.intro M0 y)
  clear M0 y h1 H0
  by_cases he : flagsE F n = 0
  · have HS : Hid (startN F n = n ∧ flagsE F n = 0) := Lib.hid ⟨by unfold startN; rw [if_pos he], he⟩
    rw [he]
    clear he
    go_wp2_with (at_builtin; refine append_any rfl _ _ 22 rfl W1.heap.size 54 i1 _ 10 24 Tryd.underlying22 hi1 hz10 hz11 hz12 rfl (by decide) _ rfl (own_empty W1 W1.heap.size 54 10 (Nat.le_refl _)) A n c (flgAt F) rfl HA.out.2.2 ?c1 ?c2 ?c3 ?c4 ?c5 ?_)
    case c1 => exact HA.out.1.below (gr_alloc H1.out.1 _)
    case c2 => exact flgAt_one F
    case c3 => unfold maxLen; omega
    case c4 => omega
    case c5 => simp
    intro v1 W2 hown1 hgrow1
    have hgr : ∀ q, (Value.slice (some ⟨W1.heap.size, 0, none⟩) 0 0).ownBlock = some q → W1.heap.size ≤ q := by intro q hq; simp [Value.ownBlock] at hq; omega
    have b1 : Below W1.heap.size W1 W2 := (gr_alloc (Below.refl W1.heap.size W1) _).grown hgrow1 (by simp) hgr
    obtain ⟨B, d, rfl, q1, ok1⟩ := row_cells (by decide) hown1
    have fr : ∀ a, B = some a → W1.heap.size ≤ a.block ∧ a.block < W2.heap.size := fun a ha => hown1.lt a.block (by rw [ha]; rfl)
    have r3 := H1.out.2.call b1
    have y0 := r3.cell' (i := 0) rfl
    have y1 := r3.cell' (i := 1) rfl
    have y2 := r3.cell' (i := 2) rfl
    have yf0 := r3.frozen 0
    have yf1 := r3.frozen 1
    have yf2 := r3.frozen 2
    have yl := r3.lt
    have H2 := Lib.hid (And.intro (gr_call H1.out.1 b1) (And.intro q1 (And.intro ok1 fr)))
    clear hown1 hgrow1 hgr b1 q1 ok1 fr r3 H1
    go_wp2_with (fail)
    refine bodyPost_ret (v := .tuple #[.agg #[.slice B n d, .int .i64 0, .bool false], .int .i64 0]) (by simp [results, Tryd.results16, go_sem, y0, y1, y2, yl]) rfl ⟨B, d, ?_, ?_, ?_, ?_⟩
    · rw [HS.out.1, HS.out.2]
    · rw [HS.out.1]
      have hfar : ∀ a, B = some a → a.block ≠ w.heap.size := fun a ha => by have := H2.out.2.2.2 a ha; omega
      exact ((H2.out.2.1.far hfar 0 _).far hfar 1 _).far hfar 2 _
    · rw [HS.out.1]; exact H2.out.2.2.1
    · exact gr_set (gr_set (gr_set H2.out.1 (by simp) _) (by simp) _) (by simp) _
  · have HS : Hid (startN F n = 0) := Lib.hid (by unfold startN; rw [if_neg he])
    generalize hx : flagsE F n = x at he ⊢
    have HX := Lib.hid hx
    clear hx
    go_wp2_with (fail)
    refine bodyPost_ret (v := .tuple #[.agg #[.slice none 0 0, .int .i64 0, .bool false], .int .i64 x]) (by simp [results, Tryd.results16, go_sem, y0, y1, y2, hl]) rfl ⟨none, 0, ?_, ?_, ?_, ?_⟩
    · rw [HS.out, HX.out]
    · rw [HS.out]; exact fun h => absurd h (by decide)
    · rw [HS.out]; exact fun _ => ⟨rfl, rfl⟩
    · exact gr_set (gr_set (gr_set H1.out.1 (by simp) _) (by simp) _) (by simp) _
end Go.Proofs.YtjkmkpehnnkpiaaDoor
