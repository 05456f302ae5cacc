/-
  pass.Run, walked: the plain run; condition: the two tables lie as they are laid.
-/
import Derived.Test.YtjkmkpehnnkpiaaDoorPasI
namespace Go.Proofs.YtjkmkpehnnkpiaaDoor
open Go.RowKit Go.Joins Go.Shelf
set_option linter.unusedVariables false
set_option linter.unusedSimpArgs false

def boolAt (H : Nat → Bool) : Nat → Nat → Value := fun i _ => .bool (H i)
/-- The answers of a list. -/
def ansL (H : Nat → Bool) (m : Nat) : Nat → Nat → Option Bool := fun _ i => if i < m then some (H i) else none

set_option maxRecDepth 100000 in
set_option maxHeartbeats 1000000 in
theorem pans (H : Nat → Bool) (m cc X i r : Nat) (AA : Option Addr) (hm : m ≤ 1000000) (hi : i ≤ m) (w : World) (hX : w.cell? ⟨X, 0, none⟩ = some (.slice AA m cc)) (hA : Cells w AA 1 m (boolAt H)) :
    Calls Tryd.prog 47 #[.int .i64 (r : Int), .int .i64 (i : Int), .pointer (some ⟨X, 0, none⟩)] w fun e W' => (∃ b, e = .returned (.tuple #[.bool b, .bool (ansL H m r i).isSome]) ∧ ∀ h, ansL H m r i = some h → b = h) ∧ ∃ q, W' = w.drewN q := by
  by_cases hlt : i < m
  · obtain ⟨ab, ao, rfl, had, hcl⟩ := hA (by omega)
    have c0 : w.cell? ⟨ab, ao + i, none⟩ = some (.bool (H i)) := by have h1 := hcl i 0 hlt (by decide); rw [Nat.mul_one, Nat.add_zero] at h1; exact h1
    clear hcl hA
    have e1 : ansL H m r i = some (H i) := if_pos hlt
    rw [e1]
    have HE := Lib.hid e1
    clear e1
    generalize H i = b at c0 ⊢
    go_enter Tryd.func47, Tryd.ntmps47
    go_wp2_with (fail)
    go_ret2
    exact ⟨⟨b, rfl, fun h hh => by injection hh⟩, 0, rfl⟩
  · obtain rfl : i = m := by omega
    have e1 : ansL H i r i = none := if_neg (Nat.lt_irrefl _)
    rw [e1]
    clear e1 hA
    go_enter Tryd.func47, Tryd.ntmps47
    go_wp2_with (fail)
    go_ret2
    exact ⟨⟨false, rfl, fun h hh => by cases hh⟩, 0, rfl⟩

theorem passE_zero {F : Nat → Flg} {n : Nat} {t : Int} {e : Bool} (h : passE F n t e = 0) : flagsE F n = 0 ∧ 0 ≤ t ∧ t ≤ n ∧ (e = true → t = n) := by
  unfold passE at h
  by_cases h0 : flagsE F n = 0
  · rw [if_pos h0] at h
    by_cases h1 : t < 0 ∨ (n : Int) < t
    · rw [if_pos h1] at h; cases h
    · rw [if_neg h1] at h
      by_cases h2 : e = true ∧ t < n
      · rw [if_pos h2] at h; cases h
      · exact ⟨h0, by omega, by omega, fun he => by
          by_cases h3 : t < n
          · exact absurd ⟨he, h3⟩ h2
          · omega⟩
  · rw [if_neg h0] at h; exact absurd h h0
/-- The error of a run. -/
def runE (F : Nat → Flg) (n : Nat) (t : Int) (e : Bool) (m : Nat) : Int := if passE F n t e = 0 then (if 10000 < m then 4 else 0) else passE F n t e

set_option maxRecDepth 100000 in
set_option maxHeartbeats 4000000 in
theorem prun_bad (F : Nat → Flg) (hF : SkipOk F) (A AA : Option Addr) (n c m cc : Nat) (t : Int) (en : Bool) (ht : -9223372036854775808 ≤ t ∧ t ≤ 9223372036854775807) (hn : n ≤ 1000000) (hm : m ≤ 1000000) (w : World) (hT : Tabs w) (hc : Cells w A 10 n (flgAt F)) (he : runE F n t en m ≠ 0) :
    Calls Tryd.prog 24 #[.agg #[.slice A n c, .int .i64 t, .bool en], .slice AA m cc] w fun e W' => e = .returned (.tuple #[.agg #[.slice none 0 0, .int .i64 0, .bool false], .slice none 0 0, .int .i64 (runE F n t en m)]) ∧ Below w.heap.size w W' := by
  have H := Lib.hid (And.intro hF (And.intro hT hc))
  clear hF hT hc
  have z0 := gr_alloc (gr_alloc (gr_alloc (Below.refl w.heap.size w) (.cells #[.slice A n c, .int .i64 t, .bool en] 30)) (.cells #[.slice AA m cc] 31)) (.cells #[.slice none 0 0, .int .i64 0, .bool false] 30)
  have f1 : Blk (((w.alloc (.cells #[.slice A n c, .int .i64 t, .bool en] 30)).alloc (.cells #[.slice AA m cc] 31)).alloc (.cells #[.slice none 0 0, .int .i64 0, .bool false] 30)) (w.heap.size + 1) 31 #[.slice AA m cc] := (blk_at (by simp)).alloc _
  have f2 : Blk (((w.alloc (.cells #[.slice A n c, .int .i64 t, .bool en] 30)).alloc (.cells #[.slice AA m cc] 31)).alloc (.cells #[.slice none 0 0, .int .i64 0, .bool false] 30)) (w.heap.size + 1 + 1) 30 #[.slice none 0 0, .int .i64 0, .bool false] := blk_at (by simp)
  have H0 := Lib.hid (And.intro z0 (And.intro f1 f2))
  clear z0 f1 f2
  go_enter Tryd.func24, Tryd.ntmps24
  go_wp2_with (fail)
  refine (pcheck F H.out.1 A n c t en ht hn _ (H.out.2.1.below H0.out.1 (Nat.le_refl _)) (H.out.2.2.below H0.out.1)).mono ?_
  rintro e W1 ⟨rfl, h1⟩
  have z1 := gr_call H0.out.1 h1
  have f1 := H0.out.2.1.call h1
  have f2 := H0.out.2.2.call h1
  have x0 := f1.cell' (i := 0) rfl
  have y0 := f2.cell' (i := 0) rfl
  have y1 := f2.cell' (i := 1) rfl
  have y2 := f2.cell' (i := 2) rfl
  have yf0 := f2.frozen 0
  have yf1 := f2.frozen 1
  have yf2 := f2.frozen 2
  have hl1 := f1.lt
  have hl2 := f2.lt
  have H1 := Lib.hid z1
  clear z1 f1 f2 h1 H0
  by_cases hp : passE F n t en = 0
  · have e1 : runE F n t en m = 4 := by
      unfold runE at he ⊢
      rw [if_pos hp] at he ⊢
      by_cases h4 : 10000 < m
      · rw [if_pos h4]
      · rw [if_neg h4] at he; exact absurd rfl he
    have h4 : 10000 < m := by
      unfold runE at he
      rw [if_pos hp] at he
      by_cases h4 : 10000 < m
      · exact h4
      · rw [if_neg h4] at he; exact absurd rfl he
    have HE := Lib.hid e1
    rw [hp]
    clear he e1 hp
    go_wp2_with (fail)
    refine bodyPost_ret (v := .tuple #[.agg #[.slice none 0 0, .int .i64 0, .bool false], .slice none 0 0, .int .i64 4]) (by simp [results, Tryd.results24, go_sem, y0, y1, y2, hl2]) rfl ⟨by rw [HE.out], ?_⟩
    exact gr_set (gr_set (gr_set H1.out (by simp; omega) _) (by simp; omega) _) (by simp; omega) _
  · have e1 : runE F n t en m = passE F n t en := by unfold runE; rw [if_neg hp]
    generalize passE F n t en = x at hp e1 ⊢
    have HE := Lib.hid e1
    clear he e1
    go_wp2_with (fail)
    refine bodyPost_ret (v := .tuple #[.agg #[.slice none 0 0, .int .i64 0, .bool false], .slice none 0 0, .int .i64 x]) (by simp [results, Tryd.results24, go_sem, y0, y1, y2, hl2]) rfl ⟨by rw [HE.out], ?_⟩
    exact gr_set (gr_set (gr_set H1.out (by simp; omega) _) (by simp; omega) _) (by simp; omega) _

set_option maxRecDepth 100000 in
set_option maxHeartbeats 4000000 in
theorem prun_ok (F : Nat → Flg) (hF : SkipOk F) (A AA : Option Addr) (n c m cc a0 : Nat) (en : Bool) (G : Nat → Bool) (hn : n ≤ 1000000) (hm : m ≤ 10000) (w : World) (hT : Tabs w) (hA : ArgOk A n c) (hc : Cells w A 10 n (flgAt F)) (hg : Cells w AA 1 m (boolAt G)) (he : passE F n (a0 : Int) en = 0) :
    Calls Tryd.prog 24 #[.agg #[.slice A n c, .int .i64 (a0 : Int), .bool en], .slice AA m cc] w fun e W' => ∃ B d i v, e = .returned (.tuple #[.agg #[.slice B n d, .int .i64 (atN F n (ansL G m) a0 i : Int), .bool (enN F n (ansL G m) a0 en i)], v, .int .i64 0]) ∧
      i ≤ m ∧ Halt F n (ansL G m) a0 i ∧ Good F n (ansL G m) a0 i ∧ Cells W' B 10 n (flgAt F) ∧ ArgOk B n d ∧ W'.ownsRow w.heap.size 3 1 v i (intL (triedN F n (ansL G m) a0 i)) ∧ Below w.heap.size w W' := by
  obtain ⟨hz, hp0, hp1, hp2⟩ := passE_zero he
  have ha0 : a0 ≤ n := by omega
  have he0 : a0 < n → en = false := fun h => by
    cases en with
    | false => rfl
    | true => have := hp2 rfl; omega
  have hchk : ∀ k, k < n → chkF (F k) = 0 := fun k hk => (flags_zero hz hk).1
  have h64 : n ≤ 64 := by
    unfold flagsE at hz
    by_cases h : 64 < n
    · rw [if_pos h] at hz; cases hz
    · omega
  have H := Lib.hid (And.intro hF (And.intro hT (And.intro hc (And.intro hA (And.intro hg (And.intro hchk (And.intro he0 he)))))))
  have z0 := gr_alloc (gr_alloc (gr_alloc (Below.refl w.heap.size w) (.cells #[.slice A n c, .int .i64 (a0 : Int), .bool en] 30)) (.cells #[.slice AA m cc] 31)) (.cells #[.slice none 0 0, .int .i64 0, .bool false] 30)
  have f0 := ((Blk.new w 30 #[.slice A n c, .int .i64 (a0 : Int), .bool en]).alloc (.cells #[.slice AA m cc] 31)).alloc (.cells #[.slice none 0 0, .int .i64 0, .bool false] 30)
  have f1 : Blk (((w.alloc (.cells #[.slice A n c, .int .i64 (a0 : Int), .bool en] 30)).alloc (.cells #[.slice AA m cc] 31)).alloc (.cells #[.slice none 0 0, .int .i64 0, .bool false] 30)) (w.heap.size + 1) 31 #[.slice AA m cc] := (blk_at (by simp)).alloc _
  have f2 : Blk (((w.alloc (.cells #[.slice A n c, .int .i64 (a0 : Int), .bool en] 30)).alloc (.cells #[.slice AA m cc] 31)).alloc (.cells #[.slice none 0 0, .int .i64 0, .bool false] 30)) (w.heap.size + 1 + 1) 30 #[.slice none 0 0, .int .i64 0, .bool false] := blk_at (by simp)
  have H0 := Lib.hid (And.intro z0 (And.intro f0 (And.intro f1 f2)))
  clear z0 f0 f1 f2 hF hT hc hA hg hchk he0 hz hp0 hp1 hp2
  go_enter Tryd.func24, Tryd.ntmps24
  go_wp2_with (fail)
  refine (pcheck F H.out.1 A n c a0 en (by omega) hn _ (H.out.2.1.below H0.out.1 (Nat.le_refl _)) (H.out.2.2.1.below H0.out.1)).mono ?_
  rintro e W1 ⟨rfl, h1⟩
  rw [he]
  have z1 := gr_call H0.out.1 h1
  have f0 := H0.out.2.1.call h1
  have f1 := H0.out.2.2.1.call h1
  have f2 := H0.out.2.2.2.call h1
  have x0 := f1.cell' (i := 0) rfl
  have u0 := f0.cell' (i := 0) rfl
  have hl1 := f1.lt
  have hl0 := f0.lt
  have H1 := Lib.hid (And.intro z1 (And.intro f0 (And.intro f1 f2)))
  clear z1 f0 f1 f2 h1 H0 he
  have hm2 : ¬ ((10000 : Int) < (m : Int)) := by omega
  go_wp2_with (fail)
  refine (powns F A n c hn _ H.out.2.2.2.1 (H.out.2.2.1.below H1.out.1)).mono ?_
  rintro e W2 ⟨B, d, rfl, k1, k2, k3, k4⟩
  have z2 := gr_call H1.out.1 k3
  have f0 := (H1.out.2.1.call k3)
  have f1 := H1.out.2.2.1.call k3
  have f2 := H1.out.2.2.2.call k3
  have u0' := f0.cell' (i := 0) rfl
  have u1 := f0.cell' (i := 1) rfl
  have u2 := f0.cell' (i := 2) rfl
  have uf := f0.frozen 0
  have hl0' := f0.lt
  have hBk : ∀ a, B = some a → w.heap.size + 3 ≤ a.block ∧ a.block < W2.heap.size := fun a ha => by have h5 := k4 a ha; have h6 := H1.out.2.2.2.lt; omega
  have H2 := Lib.hid (And.intro z2 (And.intro f0 (And.intro f1 (And.intro f2 (And.intro k1 (And.intro k2 hBk))))))
  clear z2 f0 f1 f2 k1 k2 k3 k4 hBk H1 x0 u0 hl1 hl0
  go_wp2_with (fail)
  obtain ⟨X3, hX3⟩ : ∃ X3, X3 = (W2.setCell ⟨w.heap.size, 0, none⟩ (.slice B n d)).alloc (.cells #[.slice B n d, .int .i64 (a0 : Int), .bool en, .slice none 0 0] 73) := ⟨_, rfl⟩
  have hsz3 : X3.heap.size = W2.heap.size + 1 := by rw [hX3]; simp
  have hT3 : Blk X3 W2.heap.size 73 #[.slice B n d, .int .i64 (a0 : Int), .bool en, .slice none 0 0] := by rw [hX3]; exact blk_at (by simp)
  have hl2w : w.heap.size + 2 < W2.heap.size := H2.out.2.2.2.1.lt
  have hk3 : Cells X3 B 10 n (flgAt F) := by
    rw [hX3]
    exact (H2.out.2.2.2.2.1.far (fun a ha => by have := (H2.out.2.2.2.2.2.2 a ha).1; omega) 0 (.slice B n d)).below (gr_alloc (Below.refl _ _) _)
  have h13 : Blk X3 (w.heap.size + 1) 31 #[.slice AA m cc] := by rw [hX3]; exact (H2.out.2.2.1.far (p := ⟨w.heap.size, 0, none⟩) (by simp) _).alloc _
  have h23 : Blk X3 (w.heap.size + 1 + 1) 30 #[.slice none 0 0, .int .i64 0, .bool false] := by rw [hX3]; exact (H2.out.2.2.2.1.far (p := ⟨w.heap.size, 0, none⟩) (by simp; omega) _).alloc _
  have hz3 : Below w.heap.size w X3 := by rw [hX3]; exact gr_alloc (gr_set H2.out.1 (by simp) _) _
  have hans : AnsIs 47 #[.pointer (some ⟨w.heap.size + 1, 0, none⟩)] n m (ansL G m) X3 W2.heap.size := by
    intro W r i hW hr hi
    refine pans G m cc (w.heap.size + 1) i r AA (by omega) hi W ((h13.grown hW (by intro e; injection e with e; omega)).cell' rfl) ?_
    intro hm0
    have h5 := H.out.2.2.2.2.1.below hz3
    obtain ⟨b5, o5, e5, l5, _⟩ := H.out.2.2.2.2.1 hm0
    exact h5.grown hW (fun a k e1 e2 => by rw [e5] at e1; cases e1; cases e2; simp; omega) hm0
  rw [← hX3]
  have H3 := Lib.hid (And.intro hsz3 (And.intro hz3 (And.intro h23 (And.intro hk3 H2.out.2.2.2.2.2.1))))
  have C := callsIn_wide.1 (prun_in F n d hn B (ansL G m) a0 en ha0 H.out.2.2.2.2.2.2.1 m (by omega) (fun r => if_neg (Nat.lt_irrefl m)) W2.heap.size 47 #[.pointer (some ⟨w.heap.size + 1, 0, none⟩)] X3 hk3 (fun a ha => by have := (H2.out.2.2.2.2.2.2 a ha).2; omega) H.out.2.2.2.2.2.1 hT3 hans (enters_of Tryd.func47 (by kernel_rfl) rfl))
  clear hsz3 hz3 h23 hk3 hT3 h13 hans hX3 u0' u1 u2 uf hl0'
  refine C.mono ?_
  rintro e W4 ⟨rfl, i, v, hi, hh, hgd, hb4, ho4, hg4⟩
  obtain ⟨va, vc, rfl⟩ := own_slice ho4
  have y := H3.out.2.2.1.grown hg4 (by intro e; injection e with e; omega)
  have y0 := y.cell' (i := 0) rfl
  have y1 := y.cell' (i := 1) rfl
  have y2 := y.cell' (i := 2) rfl
  have yf0 := y.frozen 0
  have yf1 := y.frozen 1
  have yf2 := y.frozen 2
  have ylt := y.lt
  have t0 := hb4.cell' (i := 0) rfl
  have t1 := hb4.cell' (i := 1) rfl
  have t2 := hb4.cell' (i := 2) rfl
  have t3 := hb4.cell' (i := 3) rfl
  have tlt := hb4.lt
  have hk4 : Cells W4 B 10 n (flgAt F) := H3.out.2.2.2.1.grown hg4 (fun a k e1 e2 => by cases e2; have := (H2.out.2.2.2.2.2.2 a e1).2; omega)
  have hz4 : Below w.heap.size w W4 := below_only_trans H3.out.2.1 hg4 (by have := H3.out.1; omega) (fun k e => by cases e; omega)
  have ho4' := own_weaken (base' := w.heap.size) ho4 (by have := H3.out.1; omega)
  have H4 := Lib.hid (And.intro hi (And.intro hh (And.intro hgd (And.intro hk4 (And.intro hz4 (And.intro ho4' (And.intro y hb4)))))))
  clear hi hh hgd hk4 hz4 ho4 ho4' y hb4 hg4 C H3
  go_wp2_with (fail)
  go_region
  go_wp2_with (fail)
  obtain ⟨r1, r2, r3, r4, r5, r6, r7, _⟩ := H4.out
  have hfar : ∀ a, B = some a → a.block ≠ w.heap.size + 1 + 1 := fun a ha => by have := (H2.out.2.2.2.2.2.2 a ha).1; omega
  refine bodyPost_ret (v := .tuple #[.agg #[.slice B n d, .int .i64 (atN F n (ansL G m) a0 i : Int), .bool (enN F n (ansL G m) a0 en i)], .slice va i vc, .int .i64 0]) (by simp [results, Tryd.results24, go_sem, y0, y1, y2, ylt]) rfl
    ⟨B, d, i, .slice va i vc, rfl, r1, r2, r3, ?_, H2.out.2.2.2.2.2.1, ?_, ?_⟩
  · exact (((r4.far hfar 0 _).far hfar 1 _).far hfar 2 _).grown (only_drew (only_refl _ none)) (fun a k e1 e2 => by cases e2)
  · exact own_drewN (own_setCell (own_setCell (own_setCell r6 r7 (by decide) _) (r7.set_ 0 _) (by decide) _) ((r7.set_ 0 _).set_ 1 _) (by decide) _) 1
  · exact gr_drew (gr_set (gr_set (gr_set r5 (by simp; omega) _) (by simp; omega) _) (by simp; omega) _)
end Go.Proofs.YtjkmkpehnnkpiaaDoor
