/-
  The reference's Run, walked: the plain run; no condition.
-/
import Derived.Test.YtjkmkpehnnkpiaaDoorPasS
import Derived.Test.YtjkmkpehnnkpiaaDoorInw
import Derived.Deep.AppendSrc
import Derived.Deep.Upon
import Derived.Lib.AppendZeros
namespace Go.Proofs.YtjkmkpehnnkpiaaDoor
open Go.RowKit Go.Joins Go.Shelf
set_option linter.unusedVariables false
set_option linter.unusedSimpArgs false

/-- 'append([]Flags{}, l...)': the copy, in new memory. -/
theorem copy_run (F : Nat → Flg) (A : Option Addr) (n c : Nat) (hn : n ≤ 1000000) (w : World) (g : Nat) (hg : Blk w g 54 #[]) (hA : ArgOk A n c) (hc : Cells w A 10 n (flgAt F)) :
    ∃ B d w', (Builtin.append_ #[22, 22] 22 #[.slice (some ⟨g, 0, none⟩) 0 0, .slice A n c]).run Tryd.prog w = .ok (.slice B n d) w' ∧ Cells w' B 10 n (flgAt F) ∧ ArgOk B n d ∧ (∀ a, B = some a → (a.block = g ∨ w.heap.size ≤ a.block) ∧ ∃ cs, Blk w' a.block 54 cs) ∧ Below w.heap.size w w' := by
  obtain ⟨i1, hi1, hz10, hz11, hz12⟩ := info_parts infoFlg
  by_cases h0 : n = 0
  · subst h0
    have hs : Src Tryd.prog i1.size 22 (.slice A 0 c) 0 [] w := by
      cases A with
      | none => exact Src.ofNil w Tryd.underlying22 c
      | some a => exact Src.ofSlice w Tryd.underlying22 a 0 c [] (by simp) (by intro j u hj; simp at hj) (by intro u hu; cases hu)
    refine ⟨some ⟨g, 0, none⟩, 0, w, run_append_nothing w 22 22 22 54 i1 Tryd.underlying22 hi1 _ 0 0 (Nat.le_refl _) _ hs, fun h => absurd h (by decide), (show ArgOk _ _ _ from fun h => by cases h), fun a ha => ?_, Below.refl _ _⟩
    cases ha
    exact ⟨Or.inl rfl, _, hg⟩
  · have hn0 : 0 < n := by omega
    obtain ⟨b, off, rfl, hbl, hcl⟩ := hc hn0
    have hs : Src Tryd.prog i1.size 22 (.slice (some ⟨b, off, none⟩) n c) n (flatC (flgAt F) 10 n) w := by
      refine Src.ofSlice w Tryd.underlying22 _ n c _ (by rw [flatC_len, hz11]) (fun j u hj => ?_) (fun u hu => ?_)
      · have hjl : j < n * 10 := by
          have := (List.getElem?_eq_some_iff.1 hj).1
          rwa [flatC_len] at this
        rw [flatC_at (flgAt F) 10 n j hjl] at hj
        have h1 := hcl (j / 10) (j % 10) (by omega) (by omega)
        have ej : off + j / 10 * 10 + j % 10 = off + j := by omega
        rw [ej] at h1
        rw [Addr.add_lit, h1]
        exact hj
      · obtain ⟨t', _, rfl⟩ := List.mem_map.1 hu
        exact flgAt_one _ _ _
    have hr := run_append_grow_src (P := Tryd.prog) w 22 22 22 54 i1 _ Tryd.underlying22 hi1 hz10 (some ⟨g, 0, none⟩) 0 0 [] (by rw [hz11]; exact run_firstCells_some w.drew 10 0 _ 0 0 [] (by simp) (by intro j u hj; simp at hj)) _ n _ hs (by omega) (by omega) (by rw [Nat.zero_add, nextslicecap_zero hn0, hz12]; omega)
    rw [Nat.zero_add] at hr
    have hnew := Blk.new w.drew 54 (([] ++ flatC (flgAt F) 10 n).toArray ++ Builtin.zeroCells (Value.agg #[.bool false, .bool false, .bool false, .bool false, .bool false, .bool false, .bool false, .bool false, .int .i64 0, .int .i64 0]).cells (grownCap w n 0 54 - n))
    refine ⟨some ⟨w.heap.size, 0, none⟩, _, _, hr, fun _ => ⟨_, _, rfl, by simp, fun i j hi hj => ?_⟩, (show ArgOk _ _ _ from fun h => by cases h), fun a ha => ?_, gr_alloc (gr_drew (Below.refl _ _)) _⟩
    · have hlt := row_lt hi hj
      rw [Nat.zero_add]
      refine (hnew.cell (i * 10 + j)).trans ?_
      rw [Array.getElem?_append_left (by simpa [flatC_len] using hlt)]
      have h1 := flatC_at (flgAt F) 10 n (i * 10 + j) hlt
      rw [show (i * 10 + j) / 10 = i by omega, show (i * 10 + j) % 10 = j by omega] at h1
      simpa using h1
    · cases ha
      exact ⟨Or.inr (Nat.le_refl _), _, hnew⟩
set_option maxRecDepth 100000 in
set_option maxHeartbeats 4000000 in
theorem rrun_bad (F : Nat → Flg) (hF : SkipOk F) (A AA : Option Addr) (n c m cc : Nat) (t : Int) (en : Bool) (ht : -9223372036854775808 ≤ t ∧ t ≤ 9223372036854775807) (hn : n ≤ 1000000) (hm : m ≤ 1000000) (w : World) (hc : Cells w A 10 n (flgAt F)) (he : runE F n t en m ≠ 0) :
    Calls Tryd.prog 26 #[.agg #[.slice A n c, .int .i64 t, .bool en], .slice AA m cc] w fun e W' => e = .returned (.tuple #[.agg #[.slice none 0 0, .int .i64 0, .bool false], .slice none 0 0, .int .i64 (runE F n t en m)]) ∧ Below w.heap.size w W' := by
  have H := Lib.hid (And.intro hF hc)
  clear hF hc
  have z0 := gr_alloc (gr_alloc (Below.refl w.heap.size w) (.cells #[.slice A n c, .int .i64 t, .bool en] 30)) (.cells #[.slice none 0 0, .int .i64 0, .bool false] 30)
  have f2 : Blk ((w.alloc (.cells #[.slice A n c, .int .i64 t, .bool en] 30)).alloc (.cells #[.slice none 0 0, .int .i64 0, .bool false] 30)) (w.heap.size + 1) 30 #[.slice none 0 0, .int .i64 0, .bool false] := blk_at (by simp)
  have H0 := Lib.hid (And.intro z0 f2)
  clear z0 f2
  go_enter Tryd.func26, Tryd.ntmps26
  go_wp2_with (fail)
  refine (rcheckP F H.out.1 A n c t en ht hn _ (H.out.2.below H0.out.1)).mono ?_
  rintro e W1 ⟨rfl, h1⟩
  have z1 := gr_call H0.out.1 h1
  have f2 := H0.out.2.call h1
  have y0 := f2.cell' (i := 0) rfl
  have y1 := f2.cell' (i := 1) rfl
  have y2 := f2.cell' (i := 2) rfl
  have yf0 := f2.frozen 0
  have yf1 := f2.frozen 1
  have yf2 := f2.frozen 2
  have hl2 := f2.lt
  have H1 := Lib.hid z1
  clear z1 f2 h1 H0
  by_cases hp : passE F n t en = 0
  · have h4 : 10000 < m := by
      unfold runE at he
      rw [if_pos hp] at he
      by_cases h4 : 10000 < m
      · exact h4
      · rw [if_neg h4] at he; exact absurd rfl he
    have e1 : runE F n t en m = 4 := by unfold runE; rw [if_pos hp, if_pos h4]
    have HE := Lib.hid e1
    rw [hp]
    clear he e1 hp
    go_wp2_with (fail)
    refine bodyPost_ret (v := .tuple #[.agg #[.slice none 0 0, .int .i64 0, .bool false], .slice none 0 0, .int .i64 4]) (by simp [results, Tryd.results26, go_sem, y0, y1, y2, hl2]) rfl ⟨by rw [HE.out], ?_⟩
    exact gr_set (gr_set (gr_set H1.out (by simp) _) (by simp) _) (by simp) _
  · have e1 : runE F n t en m = passE F n t en := by unfold runE; rw [if_neg hp]
    generalize passE F n t en = x at hp e1 ⊢
    have hxb : (x == 0) = false := beq_eq_false_iff_ne.2 hp
    have HE := Lib.hid e1
    clear he e1
    go_wp2_with (fail)
    refine bodyPost_ret (v := .tuple #[.agg #[.slice none 0 0, .int .i64 0, .bool false], .slice none 0 0, .int .i64 x]) (by simp [results, Tryd.results26, go_sem, y0, y1, y2, hl2]) rfl ⟨by rw [HE.out], ?_⟩
    exact gr_set (gr_set (gr_set H1.out (by simp) _) (by simp) _) (by simp) _

end Go.Proofs.YtjkmkpehnnkpiaaDoor
