/-
  PassSteps, walked: it returns true, whatever the input; condition: the two tables lie as they are laid.
-/
import Derived.Test.YtjkmkpehnnkpiaaDoorPasW
import Derived.Test.YtjkmkpehnnkpiaaDoorPasM
import Derived.Deep.CutRange
namespace Go.Proofs.YtjkmkpehnnkpiaaDoor
open Go.RowKit Go.Joins Go.Shelf
set_option linter.unusedVariables false
set_option linter.unusedSimpArgs false

theorem set_three {cs : Array Value} (h : cs.size = 3) (a b c : Value) : ((cs.setIfInBounds 0 a).setIfInBounds 1 b).setIfInBounds 2 c = #[a, b, c] := by
  obtain ⟨l⟩ := cs
  match l, h with
  | [x, y, z], _ => rfl
theorem cells_store {w : World} {B : Option Addr} {n g : Nat} {f : Nat → Nat → Value} {T : TypeId} {cs : Array Value} (h : Cells w B 10 n f) (hb : Blk w g T cs) (hs : cs.size ≤ 9) (i : Nat) (u : Value) : Cells (w.setCell ⟨g, i, none⟩ u) B 10 n f := by
  intro hn
  refine (h.far (fun a ha e => ?_) i u) hn
  obtain ⟨b, off, h1, _, h2⟩ := h hn
  rw [ha] at h1
  cases h1
  have h3 := h2 0 9 hn (by decide)
  simp only at e
  subst e
  rw [hb.cell, Array.getElem?_eq_none (by omega)] at h3
  cases h3

set_option maxRecDepth 100000 in
set_option maxHeartbeats 16000000 in
theorem steps_short (F : Nat → Flg) (hF : SkipOk F) (A AA : Option Addr) (n c m cc : Nat) (t : Int) (en h : Bool) (G : Nat → Bool) (ht : -9223372036854775808 ≤ t ∧ t ≤ 9223372036854775807) (hn : n ≤ 100) (hm : m ≤ 300 ∨ (10000 < m ∧ m ≤ 10010)) (w : World) (hT : Tabs w) (hO : ArgOk A n c) (hA : Cells w A 10 n (flgAt F)) (hOg : ArgOk AA m cc) (hg : Cells w AA 1 m (boolAt G)) :
    Calls Tryd.prog 4 #[.agg #[.slice A n c, .int .i64 t, .bool en], .bool h, .slice AA m cc] w fun e W' => e = .returned (.bool true) ∧ Below w.heap.size w W' := by
  have hn2 : n ≤ 1000000 := by omega
  have hns0 : startN F n ≤ 1000000 := by unfold startN; split <;> omega
  have HA := Lib.hid (And.intro hF (And.intro hT (And.intro hO (And.intro hA (And.intro hOg (And.intro hg ht))))))
  have z0 := gr_alloc (Below.refl w.heap.size w) (.cells #[.slice A n c, .int .i64 t, .bool en] 30)
  have f0 := Blk.new w 30 #[.slice A n c, .int .i64 t, .bool en]
  have u0 := f0.cell' (i := 0) rfl
  have u1 := f0.cell' (i := 1) rfl
  have u2 := f0.cell' (i := 2) rfl
  have ul := f0.lt
  have H0 := Lib.hid (And.intro z0 f0)
  clear z0 f0 hF hT hO hA hOg hg
  have hnn : ¬ ((100 : Int) < (n : Int)) := by omega
  have hmm : ¬ ((10010 : Int) < (m : Int)) := by omega
  have hbig := Lib.hid hm
  have hm6 : m ≤ 1000000 := by omega
  clear hm
  go_enter Tryd.func4, Tryd.ntmps4
  go_upto_region 1 with (fail)
  go_cut [34] from 16 to 34 (fun v wx => v = .bool false ∧ wx = w.alloc (.cells #[.slice A n c, .int .i64 t, .bool en] 30))
  case first =>
    rcases hbig.out with hm | ⟨hm, hmx⟩
    · have hm1 : ¬ ((300 : Int) < (m : Int)) := by omega
      go_wp2_with (fail)
      all_goals go_meet
      all_goals exact ⟨rfl, rfl⟩
    · have hm1 : ((300 : Int) < (m : Int)) := by omega
      have hm3 : ¬ ((m : Int) ≤ 10000) := by omega
      go_wp2_with (fail)
      all_goals go_meet
      all_goals exact ⟨rfl, rfl⟩
  case rest =>
  obtain ⟨rfl, rfl⟩ := hcut
  clear hmm hnn
  go_wp2_with (fail)
  refine (lownP F A n c t en hn2 _ HA.out.2.2.1 (HA.out.2.2.2.1.below H0.out.1)).mono ?_
  rintro e W1 ⟨A1, c1, rfl, k1, k2, k3⟩
  have z1 := gr_alloc (gr_call H0.out.1 k3) (.cells #[.slice A1 n c1, .int .i64 t, .bool en] 30)
  have b3 := (H0.out.2.call k3).alloc (.cells #[.slice A1 n c1, .int .i64 t, .bool en] 30)
  have b7 := Blk.new W1 30 #[.slice A1 n c1, .int .i64 t, .bool en]
  have q1 := k1.below (gr_alloc (Below.refl _ _) (.cells #[.slice A1 n c1, .int .i64 t, .bool en] 30))
  have H1 := Lib.hid (And.intro z1 (And.intro b3 (And.intro b7 (And.intro q1 k2))))
  have S01 := Lib.hid (Nat.lt_of_lt_of_le (by simp : w.heap.size < (w.alloc (.cells #[.slice A n c, .int .i64 t, .bool en] 30)).heap.size) k3.size)
  clear z1 b3 b7 q1 k1 k2 k3 H0 u0 u1 u2 ul
  go_wp2_with (fail)
  refine (pstart F HA.out.1 A1 n c1 hn2 _ (HA.out.2.1.below H1.out.1 (Nat.le_refl _)) H1.out.2.2.2.2 H1.out.2.2.2.1).mono ?_
  rintro e W2 ⟨B1, d1, rfl, k1, k2, k3, k4⟩
  obtain ⟨ns, hns⟩ : ∃ ns, ns = startN F n := ⟨_, rfl⟩
  obtain ⟨fe, hfe⟩ : ∃ fe, fe = flagsE F n := ⟨_, rfl⟩
  rw [← hns] at k1 k2 hns0 ⊢
  rw [← hfe]
  have HN := Lib.hid (And.intro hns hfe)
  clear hns hfe
  have z2 := gr_alloc (gr_call H1.out.1 k3) (.cells #[.slice B1 ns d1, .int .i64 0, .bool false] 30)
  have b3 := (H1.out.2.1.call k3).alloc (.cells #[.slice B1 ns d1, .int .i64 0, .bool false] 30)
  have b7 := (H1.out.2.2.1.call k3).alloc (.cells #[.slice B1 ns d1, .int .i64 0, .bool false] 30)
  have b8 := Blk.new W2 30 #[.slice B1 ns d1, .int .i64 0, .bool false]
  have q1 := (H1.out.2.2.2.1.below k3).below (gr_alloc (Below.refl _ _) (.cells #[.slice B1 ns d1, .int .i64 0, .bool false] 30))
  have q2 := k1.below (gr_alloc (Below.refl _ _) (.cells #[.slice B1 ns d1, .int .i64 0, .bool false] 30))
  have u0 := b3.cell' (i := 0) rfl
  have u1 := b3.cell' (i := 1) rfl
  have u2 := b3.cell' (i := 2) rfl
  have ul := b3.lt
  have H2 := Lib.hid (And.intro z2 (And.intro b3 (And.intro b7 (And.intro b8 (And.intro q1 (And.intro H1.out.2.2.2.2 q2))))))
  have S12 := Lib.hid (Nat.lt_of_lt_of_le (by simp : W1.heap.size < (W1.alloc (.cells #[.slice A1 n c1, .int .i64 t, .bool en] 30)).heap.size) k3.size)
  clear z2 b3 b7 b8 q1 q2 k1 k2 k3 k4 H1
  go_wp2_with (fail)
  refine (rstart F HA.out.1 A n c hn2 _ HA.out.2.2.1 (HA.out.2.2.2.1.below H2.out.1)).mono ?_
  rintro e W3 ⟨B2, d2, rfl, k1, k2, k3⟩
  rw [← HN.out.1] at k1 k2 ⊢
  rw [← HN.out.2]
  clear u0 u1 u2 ul k2
  have OBJ := (Obj.cells #[.slice B2 ns d2, .int .i64 0, .bool false] 30)
  have z3 := gr_alloc (gr_call H2.out.1 k3) (.cells #[.slice B2 ns d2, .int .i64 0, .bool false] 30)
  have b3 := (H2.out.2.1.call k3).alloc (.cells #[.slice B2 ns d2, .int .i64 0, .bool false] 30)
  have b7 := (H2.out.2.2.1.call k3).alloc (.cells #[.slice B2 ns d2, .int .i64 0, .bool false] 30)
  have b8 := (H2.out.2.2.2.1.call k3).alloc (.cells #[.slice B2 ns d2, .int .i64 0, .bool false] 30)
  have b10 := Blk.new W3 30 #[.slice B2 ns d2, .int .i64 0, .bool false]
  have q1 := (H2.out.2.2.2.2.1.below k3).below (gr_alloc (Below.refl _ _) (.cells #[.slice B2 ns d2, .int .i64 0, .bool false] 30))
  have q2 := (H2.out.2.2.2.2.2.2.below k3).below (gr_alloc (Below.refl _ _) (.cells #[.slice B2 ns d2, .int .i64 0, .bool false] 30))
  have q3 := k1.below (gr_alloc (Below.refl _ _) (.cells #[.slice B2 ns d2, .int .i64 0, .bool false] 30))
  have hO1 := H2.out.2.2.2.2.2.1
  have H3 := Lib.hid (And.intro z3 (And.intro b3 (And.intro b7 (And.intro b8 (And.intro b10 (And.intro q1 (And.intro q2 q3)))))))
  have S23 := Lib.hid (Nat.lt_of_lt_of_le (by simp : W2.heap.size < (W2.alloc (.cells #[.slice B1 ns d1, .int .i64 0, .bool false] 30)).heap.size) k3.size)
  have HOA := Lib.hid hO1
  clear z3 b3 b7 b8 b10 q1 q2 q3 k1 k3 H2 OBJ hO1
  obtain ⟨pe, hpe⟩ : ∃ pe, pe = passE F n t en := ⟨_, rfl⟩
  have HP := Lib.hid hpe.symm
  clear hpe
  have hns := hns0
  go_wp2_with (fail)
  generalize hX3 : W3.alloc (.cells #[.slice B2 ns d2, .int .i64 0, .bool false] 30) = X3 at H3 ⊢
  refine wp_region_late 16 [] (fun d x v => match d with
    | 50 => v = .agg #[.slice A1 n c1, .int .i64 t, .bool en]
    | 51 => v = .int .i64 pe
    | 52 => v = .agg #[.slice A n c, .int .i64 t, .bool en]
    | 53 => v = .int .i64 pe
    | 54 => v = .bool false
    | 55 => v = .bool false
    | 56 => v = .agg #[.slice B1 ns d1, .int .i64 0, .bool false]
    | 57 => v = .agg #[.slice B2 ns d2, .int .i64 0, .bool false]
    | 59 => v = .bool false
    | 60 => v = .bool false
    | 61 => v = .bool false
    | 62 => v = .int .i64 fe
    | 63 => v = .int .i64 fe
    | 64 => v = .bool false
    | 65 => v = .bool false
    | _ => v = .bool true) (by kernel_rfl) (by kernel_rfl) (by kernel_rfl) (by kernel_rfl) (by decide) ?stable ?dist ?steps ?fin
  case stable =>
    intro d x x' v hB h
    revert h
    split <;> intro h <;> exact h
  case dist =>
    intro d hd
    cases hd
  case steps =>
    refine ⟨?_, ?_⟩
    · intro a w' hB hsz hbase hdeps K hK
      obtain ⟨ev, hev⟩ : ∃ ev, ev = a.eval := ⟨_, rfl⟩
      have hec : ∀ v, ev (.const v) = v := fun v => by rw [hev]; rfl
      have hef : ∀ f, ev (.func f) = .func (.func f) #[] #[] := fun f => by rw [hev]; rfl
      rw [← hev] at hbase hdeps
      have b7 : ev (.tmp 7) = (.pointer (some ⟨W1.heap.size, 0, none⟩)) := (hbase 7 (by kernel_rfl))
      rw [if_pos (by kernel_rfl)]
      left
      have x3 := H3.out.2.1.call hB
      have x7 := H3.out.2.2.1.call hB
      have x8 := H3.out.2.2.2.1.call hB
      have x10 := H3.out.2.2.2.2.1.call hB
      have z3 := x3.lt
      have z7 := x7.lt
      have z8 := x8.lt
      have z10 := x10.lt
      have x3c0 := x3.cell' (i := 0) rfl
      have x3c1 := x3.cell' (i := 1) rfl
      have x3c2 := x3.cell' (i := 2) rfl
      have x7c0 := x7.cell' (i := 0) rfl
      have x7c1 := x7.cell' (i := 1) rfl
      have x7c2 := x7.cell' (i := 2) rfl
      have x8c0 := x8.cell' (i := 0) rfl
      have x8c1 := x8.cell' (i := 1) rfl
      have x8c2 := x8.cell' (i := 2) rfl
      have x10c0 := x10.cell' (i := 0) rfl
      have x10c1 := x10.cell' (i := 1) rfl
      have x10c2 := x10.cell' (i := 2) rfl
      clear x3 x7 x8 x10
      refine step_val (v := .agg #[.slice A1 n c1, .int .i64 t, .bool en]) (w' := w') ?_ (hK _ _ (Below.refl _ _) (by intro d hd; cases hd; exact rfl) (by intro d hd hm; cases hd; exact absurd hm (by decide)))
      rw [← hev]
      clear hK hdeps hbase hev
      simp only [execOp, hec, hef, b7]
      go_simp
    refine ⟨?_, ?_⟩
    · intro a w' hB hsz hbase hdeps K hK
      obtain ⟨ev, hev⟩ : ∃ ev, ev = a.eval := ⟨_, rfl⟩
      have hec : ∀ v, ev (.const v) = v := fun v => by rw [hev]; rfl
      have hef : ∀ f, ev (.func f) = .func (.func f) #[] #[] := fun f => by rw [hev]; rfl
      rw [← hev] at hbase hdeps
      have d50 : ev (.tmp 50) = .agg #[.slice A1 n c1, .int .i64 t, .bool en] := hdeps 50 (of_decide_eq_true (by kernel_rfl))
      rw [if_pos (by kernel_rfl)]
      left
      refine step_enter (w' := w') (f := 17) (args := #[.agg #[.slice A1 n c1, .int .i64 t, .bool en]]) ?_ ?_
      · rw [← hev]
        clear hK hdeps hbase hev
        simp only [execOp, hec, hef, d50]
        go_simp
      · refine ((by have k := pcheck F HA.out.1 A1 n c1 t en ht hn2 w' (HA.out.2.1.below (gr_call H3.out.1 hB) (Nat.le_refl _)) (H3.out.2.2.2.2.2.1.below hB); rw [HP.out] at k; exact k : Calls Tryd.prog 17 #[.agg #[.slice A1 n c1, .int .i64 t, .bool en]] w' fun e W' => e = .returned (.int .i64 pe) ∧ Below w'.heap.size w' W')).mono ?_
        rintro e W ⟨rfl, hb⟩
        exact ⟨_, rfl, hK _ _ hb (by intro d hd; cases hd; exact rfl) (by intro d hd hm; cases hd; exact absurd hm (by decide))⟩
    refine ⟨?_, ?_⟩
    · intro a w' hB hsz hbase hdeps K hK
      obtain ⟨ev, hev⟩ : ∃ ev, ev = a.eval := ⟨_, rfl⟩
      have hec : ∀ v, ev (.const v) = v := fun v => by rw [hev]; rfl
      have hef : ∀ f, ev (.func f) = .func (.func f) #[] #[] := fun f => by rw [hev]; rfl
      rw [← hev] at hbase hdeps
      have b3 : ev (.tmp 3) = (.pointer (some ⟨w.heap.size, 0, none⟩)) := (hbase 3 (by kernel_rfl))
      rw [if_pos (by kernel_rfl)]
      left
      have x3 := H3.out.2.1.call hB
      have x7 := H3.out.2.2.1.call hB
      have x8 := H3.out.2.2.2.1.call hB
      have x10 := H3.out.2.2.2.2.1.call hB
      have z3 := x3.lt
      have z7 := x7.lt
      have z8 := x8.lt
      have z10 := x10.lt
      have x3c0 := x3.cell' (i := 0) rfl
      have x3c1 := x3.cell' (i := 1) rfl
      have x3c2 := x3.cell' (i := 2) rfl
      have x7c0 := x7.cell' (i := 0) rfl
      have x7c1 := x7.cell' (i := 1) rfl
      have x7c2 := x7.cell' (i := 2) rfl
      have x8c0 := x8.cell' (i := 0) rfl
      have x8c1 := x8.cell' (i := 1) rfl
      have x8c2 := x8.cell' (i := 2) rfl
      have x10c0 := x10.cell' (i := 0) rfl
      have x10c1 := x10.cell' (i := 1) rfl
      have x10c2 := x10.cell' (i := 2) rfl
      clear x3 x7 x8 x10
      refine step_val (v := .agg #[.slice A n c, .int .i64 t, .bool en]) (w' := w') ?_ (hK _ _ (Below.refl _ _) (by intro d hd; cases hd; exact rfl) (by intro d hd hm; cases hd; exact absurd hm (by decide)))
      rw [← hev]
      clear hK hdeps hbase hev
      simp only [execOp, hec, hef, b3]
      go_simp
    refine ⟨?_, ?_⟩
    · intro a w' hB hsz hbase hdeps K hK
      obtain ⟨ev, hev⟩ : ∃ ev, ev = a.eval := ⟨_, rfl⟩
      have hec : ∀ v, ev (.const v) = v := fun v => by rw [hev]; rfl
      have hef : ∀ f, ev (.func f) = .func (.func f) #[] #[] := fun f => by rw [hev]; rfl
      rw [← hev] at hbase hdeps
      have d52 : ev (.tmp 52) = .agg #[.slice A n c, .int .i64 t, .bool en] := hdeps 52 (of_decide_eq_true (by kernel_rfl))
      rw [if_pos (by kernel_rfl)]
      left
      refine step_enter (w' := w') (f := 18) (args := #[.agg #[.slice A n c, .int .i64 t, .bool en]]) ?_ ?_
      · rw [← hev]
        clear hK hdeps hbase hev
        simp only [execOp, hec, hef, d52]
        go_simp
      · refine ((by have k := rcheckP F HA.out.1 A n c t en ht hn2 w' (HA.out.2.2.2.1.below (gr_call H3.out.1 hB)); rw [HP.out] at k; exact k : Calls Tryd.prog 18 #[.agg #[.slice A n c, .int .i64 t, .bool en]] w' fun e W' => e = .returned (.int .i64 pe) ∧ Below w'.heap.size w' W')).mono ?_
        rintro e W ⟨rfl, hb⟩
        exact ⟨_, rfl, hK _ _ hb (by intro d hd; cases hd; exact rfl) (by intro d hd hm; cases hd; exact absurd hm (by decide))⟩
    refine ⟨?_, ?_⟩
    · intro a w' hB hsz hbase hdeps K hK
      obtain ⟨ev, hev⟩ : ∃ ev, ev = a.eval := ⟨_, rfl⟩
      have hec : ∀ v, ev (.const v) = v := fun v => by rw [hev]; rfl
      have hef : ∀ f, ev (.func f) = .func (.func f) #[] #[] := fun f => by rw [hev]; rfl
      rw [← hev] at hbase hdeps
      have d51 : ev (.tmp 51) = .int .i64 pe := hdeps 51 (of_decide_eq_true (by kernel_rfl))
      have d53 : ev (.tmp 53) = .int .i64 pe := hdeps 53 (of_decide_eq_true (by kernel_rfl))
      rw [if_pos (by kernel_rfl)]
      left
      refine step_val (v := .bool false) (w' := w') ?_ (hK _ _ (Below.refl _ _) (by intro d hd; cases hd; exact rfl) (by intro d hd hm; cases hd; exact absurd hm (by decide)))
      rw [← hev]
      clear hK hdeps hbase hev
      simp only [execOp, hec, hef, d51, d53]
      go_simp
    refine ⟨?_, ?_⟩
    · intro a w' hB hsz hbase hdeps K hK
      obtain ⟨ev, hev⟩ : ∃ ev, ev = a.eval := ⟨_, rfl⟩
      have hec : ∀ v, ev (.const v) = v := fun v => by rw [hev]; rfl
      have hef : ∀ f, ev (.func f) = .func (.func f) #[] #[] := fun f => by rw [hev]; rfl
      rw [← hev] at hbase hdeps
      have d54 : ev (.tmp 54) = .bool false := hdeps 54 (of_decide_eq_true (by kernel_rfl))
      rw [if_pos (by kernel_rfl)]
      left
      refine step_val (v := .bool false) (w' := w') ?_ (hK _ _ (Below.refl _ _) (by intro d hd; cases hd; exact rfl) (by intro d hd hm; cases hd; exact absurd hm (by decide)))
      rw [← hev]
      clear hK hdeps hbase hev
      simp only [execOp, hec, hef, d54]
      go_simp
    refine ⟨?_, ?_⟩
    · intro a w' hB hsz hbase hdeps K hK
      obtain ⟨ev, hev⟩ : ∃ ev, ev = a.eval := ⟨_, rfl⟩
      have hec : ∀ v, ev (.const v) = v := fun v => by rw [hev]; rfl
      have hef : ∀ f, ev (.func f) = .func (.func f) #[] #[] := fun f => by rw [hev]; rfl
      rw [← hev] at hbase hdeps
      have b8 : ev (.tmp 8) = (.pointer (some ⟨W2.heap.size, 0, none⟩)) := (hbase 8 (by kernel_rfl))
      rw [if_pos (wanted_of (j := 5) (b := false) (d := 55) rfl (by kernel_rfl) (by rw [← hev]; exact hdeps 55 (of_decide_eq_true (by kernel_rfl))))]
      left
      have x3 := H3.out.2.1.call hB
      have x7 := H3.out.2.2.1.call hB
      have x8 := H3.out.2.2.2.1.call hB
      have x10 := H3.out.2.2.2.2.1.call hB
      have z3 := x3.lt
      have z7 := x7.lt
      have z8 := x8.lt
      have z10 := x10.lt
      have x3c0 := x3.cell' (i := 0) rfl
      have x3c1 := x3.cell' (i := 1) rfl
      have x3c2 := x3.cell' (i := 2) rfl
      have x7c0 := x7.cell' (i := 0) rfl
      have x7c1 := x7.cell' (i := 1) rfl
      have x7c2 := x7.cell' (i := 2) rfl
      have x8c0 := x8.cell' (i := 0) rfl
      have x8c1 := x8.cell' (i := 1) rfl
      have x8c2 := x8.cell' (i := 2) rfl
      have x10c0 := x10.cell' (i := 0) rfl
      have x10c1 := x10.cell' (i := 1) rfl
      have x10c2 := x10.cell' (i := 2) rfl
      clear x3 x7 x8 x10
      refine step_val (v := .agg #[.slice B1 ns d1, .int .i64 0, .bool false]) (w' := w') ?_ (hK _ _ (Below.refl _ _) (by intro d hd; cases hd; exact rfl) (by intro d hd hm; cases hd; exact absurd hm (by decide)))
      rw [← hev]
      clear hK hdeps hbase hev
      simp only [execOp, hec, hef, b8]
      go_simp
    refine ⟨?_, ?_⟩
    · intro a w' hB hsz hbase hdeps K hK
      obtain ⟨ev, hev⟩ : ∃ ev, ev = a.eval := ⟨_, rfl⟩
      have hec : ∀ v, ev (.const v) = v := fun v => by rw [hev]; rfl
      have hef : ∀ f, ev (.func f) = .func (.func f) #[] #[] := fun f => by rw [hev]; rfl
      rw [← hev] at hbase hdeps
      have b10 : ev (.tmp 10) = (.pointer (some ⟨W3.heap.size, 0, none⟩)) := (hbase 10 (by kernel_rfl))
      rw [if_pos (wanted_of (j := 5) (b := false) (d := 55) rfl (by kernel_rfl) (by rw [← hev]; exact hdeps 55 (of_decide_eq_true (by kernel_rfl))))]
      left
      have x3 := H3.out.2.1.call hB
      have x7 := H3.out.2.2.1.call hB
      have x8 := H3.out.2.2.2.1.call hB
      have x10 := H3.out.2.2.2.2.1.call hB
      have z3 := x3.lt
      have z7 := x7.lt
      have z8 := x8.lt
      have z10 := x10.lt
      have x3c0 := x3.cell' (i := 0) rfl
      have x3c1 := x3.cell' (i := 1) rfl
      have x3c2 := x3.cell' (i := 2) rfl
      have x7c0 := x7.cell' (i := 0) rfl
      have x7c1 := x7.cell' (i := 1) rfl
      have x7c2 := x7.cell' (i := 2) rfl
      have x8c0 := x8.cell' (i := 0) rfl
      have x8c1 := x8.cell' (i := 1) rfl
      have x8c2 := x8.cell' (i := 2) rfl
      have x10c0 := x10.cell' (i := 0) rfl
      have x10c1 := x10.cell' (i := 1) rfl
      have x10c2 := x10.cell' (i := 2) rfl
      clear x3 x7 x8 x10
      refine step_val (v := .agg #[.slice B2 ns d2, .int .i64 0, .bool false]) (w' := w') ?_ (hK _ _ (Below.refl _ _) (by intro d hd; cases hd; exact rfl) (by intro d hd hm; cases hd; exact absurd hm (by decide)))
      rw [← hev]
      clear hK hdeps hbase hev
      simp only [execOp, hec, hef, b10]
      go_simp
    refine ⟨?_, ?_⟩
    · intro a w' hB hsz hbase hdeps K hK
      obtain ⟨ev, hev⟩ : ∃ ev, ev = a.eval := ⟨_, rfl⟩
      have hec : ∀ v, ev (.const v) = v := fun v => by rw [hev]; rfl
      have hef : ∀ f, ev (.func f) = .func (.func f) #[] #[] := fun f => by rw [hev]; rfl
      rw [← hev] at hbase hdeps
      have d56 : ev (.tmp 56) = .agg #[.slice B1 ns d1, .int .i64 0, .bool false] := hdeps 56 (of_decide_eq_true (by kernel_rfl))
      have d57 : ev (.tmp 57) = .agg #[.slice B2 ns d2, .int .i64 0, .bool false] := hdeps 57 (of_decide_eq_true (by kernel_rfl))
      rw [if_pos (wanted_of (j := 5) (b := false) (d := 55) rfl (by kernel_rfl) (by rw [← hev]; exact hdeps 55 (of_decide_eq_true (by kernel_rfl))))]
      left
      refine step_enter (w' := w') (f := 19) (args := #[.agg #[.slice B1 ns d1, .int .i64 0, .bool false], .agg #[.slice B2 ns d2, .int .i64 0, .bool false]]) ?_ ?_
      · rw [← hev]
        clear hK hdeps hbase hev
        simp only [execOp, hec, hef, d56, d57]
        go_simp
      · refine (sameP F B1 B2 ns d1 d2 0 false hns w' (H3.out.2.2.2.2.2.2.1.below hB) (H3.out.2.2.2.2.2.2.2.below hB)).mono ?_
        rintro e W ⟨rfl, hb⟩
        exact ⟨_, rfl, hK _ _ hb (by intro d hd; cases hd; exact rfl) (by intro d hd hm; cases hd; exact absurd hm (by decide))⟩
    refine ⟨?_, ?_⟩
    · intro a w' hB hsz hbase hdeps K hK
      obtain ⟨ev, hev⟩ : ∃ ev, ev = a.eval := ⟨_, rfl⟩
      have hec : ∀ v, ev (.const v) = v := fun v => by rw [hev]; rfl
      have hef : ∀ f, ev (.func f) = .func (.func f) #[] #[] := fun f => by rw [hev]; rfl
      rw [← hev] at hbase hdeps
      have d58 : ev (.tmp 58) = .bool true := hdeps 58 (of_decide_eq_true (by kernel_rfl))
      rw [if_pos (wanted_of (j := 5) (b := false) (d := 55) rfl (by kernel_rfl) (by rw [← hev]; exact hdeps 55 (of_decide_eq_true (by kernel_rfl))))]
      left
      refine step_val (v := .bool false) (w' := w') ?_ (hK _ _ (Below.refl _ _) (by intro d hd; cases hd; exact rfl) (by intro d hd hm; cases hd; exact absurd hm (by decide)))
      rw [← hev]
      clear hK hdeps hbase hev
      simp only [execOp, hec, hef, d58]
      go_simp
    refine ⟨?_, ?_⟩
    · intro a w' hB hsz hbase hdeps K hK
      obtain ⟨ev, hev⟩ : ∃ ev, ev = a.eval := ⟨_, rfl⟩
      have hec : ∀ v, ev (.const v) = v := fun v => by rw [hev]; rfl
      have hef : ∀ f, ev (.func f) = .func (.func f) #[] #[] := fun f => by rw [hev]; rfl
      rw [← hev] at hbase hdeps
      have d55 : ev (.tmp 55) = .bool false := hdeps 55 (of_decide_eq_true (by kernel_rfl))
      have d59 : ev (.tmp 59) = .bool false := hdeps 59 (of_decide_eq_true (by kernel_rfl))
      rw [if_pos (by kernel_rfl)]
      left
      refine step_val (v := .bool false) (w' := w') ?_ (hK _ _ (Below.refl _ _) (by intro d hd; cases hd; exact rfl) (by intro d hd hm; cases hd; exact absurd hm (by decide)))
      rw [← hev]
      clear hK hdeps hbase hev
      simp only [execOp, hec, hef, d55, d59]
      go_simp
    refine ⟨?_, ?_⟩
    · intro a w' hB hsz hbase hdeps K hK
      obtain ⟨ev, hev⟩ : ∃ ev, ev = a.eval := ⟨_, rfl⟩
      have hec : ∀ v, ev (.const v) = v := fun v => by rw [hev]; rfl
      have hef : ∀ f, ev (.func f) = .func (.func f) #[] #[] := fun f => by rw [hev]; rfl
      rw [← hev] at hbase hdeps
      have d60 : ev (.tmp 60) = .bool false := hdeps 60 (of_decide_eq_true (by kernel_rfl))
      rw [if_pos (by kernel_rfl)]
      left
      refine step_val (v := .bool false) (w' := w') ?_ (hK _ _ (Below.refl _ _) (by intro d hd; cases hd; exact rfl) (by intro d hd hm; cases hd; exact absurd hm (by decide)))
      rw [← hev]
      clear hK hdeps hbase hev
      simp only [execOp, hec, hef, d60]
      go_simp
    refine ⟨?_, ?_⟩
    · intro a w' hB hsz hbase hdeps K hK
      obtain ⟨ev, hev⟩ : ∃ ev, ev = a.eval := ⟨_, rfl⟩
      have hec : ∀ v, ev (.const v) = v := fun v => by rw [hev]; rfl
      have hef : ∀ f, ev (.func f) = .func (.func f) #[] #[] := fun f => by rw [hev]; rfl
      rw [← hev] at hbase hdeps
      have b9 : ev (.tmp 9) = .int .i64 fe := (hbase 9 (by kernel_rfl))
      rw [if_pos (wanted_of (j := 11) (b := false) (d := 61) rfl (by kernel_rfl) (by rw [← hev]; exact hdeps 61 (of_decide_eq_true (by kernel_rfl))))]
      left
      refine step_val (v := .int .i64 fe) (w' := w') ?_ (hK _ _ (Below.refl _ _) (by intro d hd; cases hd; exact rfl) (by intro d hd hm; cases hd; exact absurd hm (by decide)))
      rw [← hev]
      clear hK hdeps hbase hev
      simp only [execOp, hec, hef, b9]
      go_simp
    refine ⟨?_, ?_⟩
    · intro a w' hB hsz hbase hdeps K hK
      obtain ⟨ev, hev⟩ : ∃ ev, ev = a.eval := ⟨_, rfl⟩
      have hec : ∀ v, ev (.const v) = v := fun v => by rw [hev]; rfl
      have hef : ∀ f, ev (.func f) = .func (.func f) #[] #[] := fun f => by rw [hev]; rfl
      rw [← hev] at hbase hdeps
      have b11 : ev (.tmp 11) = .int .i64 fe := (hbase 11 (by kernel_rfl))
      rw [if_pos (wanted_of (j := 11) (b := false) (d := 61) rfl (by kernel_rfl) (by rw [← hev]; exact hdeps 61 (of_decide_eq_true (by kernel_rfl))))]
      left
      refine step_val (v := .int .i64 fe) (w' := w') ?_ (hK _ _ (Below.refl _ _) (by intro d hd; cases hd; exact rfl) (by intro d hd hm; cases hd; exact absurd hm (by decide)))
      rw [← hev]
      clear hK hdeps hbase hev
      simp only [execOp, hec, hef, b11]
      go_simp
    refine ⟨?_, ?_⟩
    · intro a w' hB hsz hbase hdeps K hK
      obtain ⟨ev, hev⟩ : ∃ ev, ev = a.eval := ⟨_, rfl⟩
      have hec : ∀ v, ev (.const v) = v := fun v => by rw [hev]; rfl
      have hef : ∀ f, ev (.func f) = .func (.func f) #[] #[] := fun f => by rw [hev]; rfl
      rw [← hev] at hbase hdeps
      have d62 : ev (.tmp 62) = .int .i64 fe := hdeps 62 (of_decide_eq_true (by kernel_rfl))
      have d63 : ev (.tmp 63) = .int .i64 fe := hdeps 63 (of_decide_eq_true (by kernel_rfl))
      rw [if_pos (wanted_of (j := 11) (b := false) (d := 61) rfl (by kernel_rfl) (by rw [← hev]; exact hdeps 61 (of_decide_eq_true (by kernel_rfl))))]
      left
      refine step_val (v := .bool false) (w' := w') ?_ (hK _ _ (Below.refl _ _) (by intro d hd; cases hd; exact rfl) (by intro d hd hm; cases hd; exact absurd hm (by decide)))
      rw [← hev]
      clear hK hdeps hbase hev
      simp only [execOp, hec, hef, d62, d63]
      go_simp
    refine ⟨?_, ?_⟩
    · intro a w' hB hsz hbase hdeps K hK
      obtain ⟨ev, hev⟩ : ∃ ev, ev = a.eval := ⟨_, rfl⟩
      have hec : ∀ v, ev (.const v) = v := fun v => by rw [hev]; rfl
      have hef : ∀ f, ev (.func f) = .func (.func f) #[] #[] := fun f => by rw [hev]; rfl
      rw [← hev] at hbase hdeps
      have d61 : ev (.tmp 61) = .bool false := hdeps 61 (of_decide_eq_true (by kernel_rfl))
      have d64 : ev (.tmp 64) = .bool false := hdeps 64 (of_decide_eq_true (by kernel_rfl))
      rw [if_pos (by kernel_rfl)]
      left
      refine step_val (v := .bool false) (w' := w') ?_ (hK _ _ (Below.refl _ _) (by intro d hd; cases hd; exact rfl) (by intro d hd hm; cases hd; exact absurd hm (by decide)))
      rw [← hev]
      clear hK hdeps hbase hev
      simp only [execOp, hec, hef, d61, d64]
      go_simp
    exact trivial

  case fin =>
    intro a x hB hsz hdef hbase hS _
    have v50 : a.eval (.tmp 50) = .agg #[.slice A1 n c1, .int .i64 t, .bool en] := hS _ (List.mem_of_getElem? (i := 0) rfl) 50 rfl
    have v51 : a.eval (.tmp 51) = .int .i64 pe := hS _ (List.mem_of_getElem? (i := 1) rfl) 51 rfl
    have v52 : a.eval (.tmp 52) = .agg #[.slice A n c, .int .i64 t, .bool en] := hS _ (List.mem_of_getElem? (i := 2) rfl) 52 rfl
    have v53 : a.eval (.tmp 53) = .int .i64 pe := hS _ (List.mem_of_getElem? (i := 3) rfl) 53 rfl
    have v54 : a.eval (.tmp 54) = .bool false := hS _ (List.mem_of_getElem? (i := 4) rfl) 54 rfl
    have v55 : a.eval (.tmp 55) = .bool false := hS _ (List.mem_of_getElem? (i := 5) rfl) 55 rfl
    have v56 : a.eval (.tmp 56) = .agg #[.slice B1 ns d1, .int .i64 0, .bool false] := hS _ (List.mem_of_getElem? (i := 6) rfl) 56 rfl
    have v57 : a.eval (.tmp 57) = .agg #[.slice B2 ns d2, .int .i64 0, .bool false] := hS _ (List.mem_of_getElem? (i := 7) rfl) 57 rfl
    have v58 : a.eval (.tmp 58) = .bool true := hS _ (List.mem_of_getElem? (i := 8) rfl) 58 rfl
    have v59 : a.eval (.tmp 59) = .bool false := hS _ (List.mem_of_getElem? (i := 9) rfl) 59 rfl
    have v60 : a.eval (.tmp 60) = .bool false := hS _ (List.mem_of_getElem? (i := 10) rfl) 60 rfl
    have v61 : a.eval (.tmp 61) = .bool false := hS _ (List.mem_of_getElem? (i := 11) rfl) 61 rfl
    have v62 : a.eval (.tmp 62) = .int .i64 fe := hS _ (List.mem_of_getElem? (i := 12) rfl) 62 rfl
    have v63 : a.eval (.tmp 63) = .int .i64 fe := hS _ (List.mem_of_getElem? (i := 13) rfl) 63 rfl
    have v64 : a.eval (.tmp 64) = .bool false := hS _ (List.mem_of_getElem? (i := 14) rfl) 64 rfl
    have v65 : a.eval (.tmp 65) = .bool false := hS _ (List.mem_of_getElem? (i := 15) rfl) 65 rfl
    have ha := act_over [(50, .agg #[.slice A1 n c1, .int .i64 t, .bool en]), (51, .int .i64 pe), (52, .agg #[.slice A n c, .int .i64 t, .bool en]), (53, .int .i64 pe), (54, .bool false), (55, .bool false), (56, .agg #[.slice B1 ns d1, .int .i64 0, .bool false]), (57, .agg #[.slice B2 ns d2, .int .i64 0, .bool false]), (58, .bool true), (59, .bool false), (60, .bool false), (61, .bool false), (62, .int .i64 fe), (63, .int .i64 fe), (64, .bool false), (65, .bool false)] hsz hdef hbase (by kernel_rfl) ⟨v50, v51, v52, v53, v54, v55, v56, v57, v58, v59, v60, v61, v62, v63, v64, v65, trivial⟩
    clear hsz hdef hbase hS v50 v51 v52 v53 v54 v55 v56 v57 v58 v59 v60 v61 v62 v63 v64 v65
    subst ha
    simp only [List.drop, putAll]
    have y3 := H3.out.2.1.call hB
    have y7 := H3.out.2.2.1.call hB
    have y8 := H3.out.2.2.2.1.call hB
    have y10 := H3.out.2.2.2.2.1.call hB
    have zX := gr_call H3.out.1 hB
    have p1 := H3.out.2.2.2.2.2.1.below hB
    have s8 : W1.heap.size < W2.heap.size := S12.out
    have s10 : W2.heap.size < W3.heap.size := S23.out
    have s0 : w.heap.size < W1.heap.size := S01.out
    have e7 := y7.cell' (i := 0) rfl
    have e7b := y7.cell' (i := 1) rfl
    have e7c := y7.cell' (i := 2) rfl
    have l7 := y7.lt
    have HX := Lib.hid (And.intro zX (And.intro y3 (And.intro y7 (And.intro y8 (And.intro y10 p1)))))
    clear zX y3 y7 y8 y10 p1 hB H3
    refine wpList_nil ?_
    simp (config := {decide := false}) only [Act.put, List.setIfInBounds_toArray, List.set_cons_zero, List.set_cons_succ]
    go_upto_region 8 with (fail)
    go_wp2_with (fail)
    refine (pover2 F HA.out.1 A1 n c1 t en ht hn2 _ (HA.out.2.1.below HX.out.1 (Nat.le_refl _)) HX.out.2.2.2.2.2).mono ?_
    rintro e W4 ⟨rfl, h4⟩
    obtain ⟨ov, hov⟩ : ∃ ov, ov = overV F n t en := ⟨_, rfl⟩
    rw [← hov, HP.out]
    have HOV := Lib.hid hov.symm
    clear hov
    have g0 := (HX.out.2.1.call h4).cell' (i := 0) rfl
    have g1 := (HX.out.2.1.call h4).cell' (i := 1) rfl
    have g2 := (HX.out.2.1.call h4).cell' (i := 2) rfl
    have gl := (HX.out.2.1.call h4).lt
    have H4 := Lib.hid (And.intro (gr_call HX.out.1 h4) (And.intro (HX.out.2.1.call h4) (And.intro (HX.out.2.2.1.call h4) (And.intro (HX.out.2.2.2.1.call h4) (And.intro (HX.out.2.2.2.2.1.call h4) (HX.out.2.2.2.2.2.below h4))))))
    clear h4 HX e7 e7b e7c l7
    go_wp2_with (fail)
    refine (rover2 F HA.out.1 A n c t en ht hn2 _ (HA.out.2.2.2.1.below H4.out.1)).mono ?_
    rintro e W5 ⟨rfl, h5⟩
    rw [HOV.out, HP.out]
    have g0 := (H4.out.2.2.1.call h5).cell' (i := 0) rfl
    have g1 := (H4.out.2.2.1.call h5).cell' (i := 1) rfl
    have g2 := (H4.out.2.2.1.call h5).cell' (i := 2) rfl
    have gl := (H4.out.2.2.1.call h5).lt
    have H5 := Lib.hid (And.intro (gr_call H4.out.1 h5) (And.intro (H4.out.2.1.call h5) (And.intro (H4.out.2.2.1.call h5) (And.intro (H4.out.2.2.2.1.call h5) (And.intro (H4.out.2.2.2.2.1.call h5) (H4.out.2.2.2.2.2.below h5))))))
    clear h5 H4
    have hovb : (ov != ov) = false := by simp
    go_wp2_with (fail)
    refine (pnextU F HA.out.1 A1 n c1 t en h ht hn2 _ (HA.out.2.1.below H5.out.1 (Nat.le_refl _)) HOA.out H5.out.2.2.2.2.2).mono ?_
    rintro e W6 ⟨v6, rfl, ⟨B6, d6, rfl, p6, _⟩, h6⟩
    obtain ⟨nn, hnn⟩ : ∃ nn, nn = nxN F n t en := ⟨_, rfl⟩
    obtain ⟨nt, hnt⟩ : ∃ nt, nt = nxT F n t en h := ⟨_, rfl⟩
    obtain ⟨ne, hne⟩ : ∃ ne, ne = nxE F n t en h := ⟨_, rfl⟩
    obtain ⟨nr, hnr⟩ : ∃ nr, nr = nextE F n t en := ⟨_, rfl⟩
    have hnnl : nn ≤ 1000000 := by rw [hnn]; unfold nxN; split <;> omega
    rw [← hnn, ← hnt, ← hne, ← hnr]
    rw [← hnn] at p6
    have HQ := Lib.hid (And.intro hnn.symm (And.intro hnt.symm (And.intro hne.symm hnr.symm)))
    clear hnn hnt hne hnr
    have y8 := H5.out.2.2.2.1.call h6
    have g0 := (H5.out.2.1.call h6).cell' (i := 0) rfl
    have g1 := (H5.out.2.1.call h6).cell' (i := 1) rfl
    have g2 := (H5.out.2.1.call h6).cell' (i := 2) rfl
    have gl := (H5.out.2.1.call h6).lt
    have m0 := y8.cell' (i := 0) rfl
    have m1 := y8.cell' (i := 1) rfl
    have m2 := y8.cell' (i := 2) rfl
    have mf0 := y8.frozen 0
    have mf1 := y8.frozen 1
    have mf2 := y8.frozen 2
    have ml := y8.lt
    have n30 : w.heap.size ≠ W2.heap.size := by omega
    have n70 : W1.heap.size ≠ W2.heap.size := by omega
    have n100 : W3.heap.size ≠ W2.heap.size := by omega
    have r3 := (((H5.out.2.1.call h6).far (p := ⟨W2.heap.size, 0, none⟩) n30 (.slice B6 nn d6)).far (p := ⟨W2.heap.size, 1, none⟩) n30 (.int .i64 nt)).far (p := ⟨W2.heap.size, 2, none⟩) n30 (.bool ne)
    have r7 := (((H5.out.2.2.1.call h6).far (p := ⟨W2.heap.size, 0, none⟩) n70 (.slice B6 nn d6)).far (p := ⟨W2.heap.size, 1, none⟩) n70 (.int .i64 nt)).far (p := ⟨W2.heap.size, 2, none⟩) n70 (.bool ne)
    have r8 := ((y8.set_ 0 (.slice B6 nn d6)).set_ 1 (.int .i64 nt)).set_ 2 (.bool ne)
    have r10 := (((H5.out.2.2.2.2.1.call h6).far (p := ⟨W2.heap.size, 0, none⟩) n100 (.slice B6 nn d6)).far (p := ⟨W2.heap.size, 1, none⟩) n100 (.int .i64 nt)).far (p := ⟨W2.heap.size, 2, none⟩) n100 (.bool ne)
    have rz : Below w.heap.size w (((W6.setCell ⟨W2.heap.size, 0, none⟩ (.slice B6 nn d6)).setCell ⟨W2.heap.size, 1, none⟩ (.int .i64 nt)).setCell ⟨W2.heap.size, 2, none⟩ (.bool ne)) := gr_set (gr_set (gr_set (gr_call H5.out.1 h6) (by simp; omega) _) (by simp; omega) _) (by simp; omega) _
    have rp := cells_store (cells_store (cells_store (H5.out.2.2.2.2.2.below h6) y8 (by simp) 0 (.slice B6 nn d6)) (y8.set_ 0 (.slice B6 nn d6)) (by simp) 1 (.int .i64 nt)) ((y8.set_ 0 (.slice B6 nn d6)).set_ 1 (.int .i64 nt)) (by simp) 2 (.bool ne)
    have rq := cells_store (cells_store (cells_store p6 y8 (by simp) 0 (.slice B6 nn d6)) (y8.set_ 0 (.slice B6 nn d6)) (by simp) 1 (.int .i64 nt)) ((y8.set_ 0 (.slice B6 nn d6)).set_ 1 (.int .i64 nt)) (by simp) 2 (.bool ne)
    have H6 := Lib.hid (And.intro rz (And.intro r3 (And.intro r7 (And.intro r8 (And.intro r10 (And.intro rp rq))))))
    clear rz r3 r7 r8 r10 rp rq y8 p6 h6 H5
    go_wp2_with (fail)
    generalize (((W6.setCell ⟨W2.heap.size, 0, none⟩ (.slice B6 nn d6)).setCell ⟨W2.heap.size, 1, none⟩ (.int .i64 nt)).setCell ⟨W2.heap.size, 2, none⟩ (.bool ne)) = Z6 at H6 ⊢
    refine (rnextU F HA.out.1 A n c t en h ht hn2 _ HA.out.2.2.1 (HA.out.2.2.2.1.below H6.out.1)).mono ?_
    rintro e W7 ⟨v7, rfl, ⟨B7, d7, rfl, p7, _⟩, h7⟩
    rw [HQ.out.1, HQ.out.2.1, HQ.out.2.2.1, HQ.out.2.2.2]
    rw [HQ.out.1] at p7
    have y10 := H6.out.2.2.2.2.1.call h7
    have m0 := y10.cell' (i := 0) rfl
    have m1 := y10.cell' (i := 1) rfl
    have m2 := y10.cell' (i := 2) rfl
    have mf0 := y10.frozen 0
    have mf1 := y10.frozen 1
    have mf2 := y10.frozen 2
    have ml := y10.lt
    have k8 := H6.out.2.2.2.1.call h7
    have k80 := k8.cell' (i := 0) rfl
    have k81 := k8.cell' (i := 1) rfl
    have k82 := k8.cell' (i := 2) rfl
    have k8l := k8.lt
    have n3 : w.heap.size ≠ W3.heap.size := by omega
    have n7 : W1.heap.size ≠ W3.heap.size := by omega
    have n8 : W2.heap.size ≠ W3.heap.size := by omega
    have r3 := (((H6.out.2.1.call h7).far (p := ⟨W3.heap.size, 0, none⟩) n3 (.slice B7 nn d7)).far (p := ⟨W3.heap.size, 1, none⟩) n3 (.int .i64 nt)).far (p := ⟨W3.heap.size, 2, none⟩) n3 (.bool ne)
    have r7 := (((H6.out.2.2.1.call h7).far (p := ⟨W3.heap.size, 0, none⟩) n7 (.slice B7 nn d7)).far (p := ⟨W3.heap.size, 1, none⟩) n7 (.int .i64 nt)).far (p := ⟨W3.heap.size, 2, none⟩) n7 (.bool ne)
    have r8 := ((k8.far (p := ⟨W3.heap.size, 0, none⟩) n8 (.slice B7 nn d7)).far (p := ⟨W3.heap.size, 1, none⟩) n8 (.int .i64 nt)).far (p := ⟨W3.heap.size, 2, none⟩) n8 (.bool ne)
    have r10 := ((y10.set_ 0 (.slice B7 nn d7)).set_ 1 (.int .i64 nt)).set_ 2 (.bool ne)
    have rz : Below w.heap.size w (((W7.setCell ⟨W3.heap.size, 0, none⟩ (.slice B7 nn d7)).setCell ⟨W3.heap.size, 1, none⟩ (.int .i64 nt)).setCell ⟨W3.heap.size, 2, none⟩ (.bool ne)) := gr_set (gr_set (gr_set (gr_call H6.out.1 h7) (by simp; omega) _) (by simp; omega) _) (by simp; omega) _
    have rp := cells_store (cells_store (cells_store (H6.out.2.2.2.2.2.1.below h7) y10 (by simp) 0 (.slice B7 nn d7)) (y10.set_ 0 (.slice B7 nn d7)) (by simp) 1 (.int .i64 nt)) ((y10.set_ 0 (.slice B7 nn d7)).set_ 1 (.int .i64 nt)) (by simp) 2 (.bool ne)
    have rq := cells_store (cells_store (cells_store (H6.out.2.2.2.2.2.2.below h7) y10 (by simp) 0 (.slice B7 nn d7)) (y10.set_ 0 (.slice B7 nn d7)) (by simp) 1 (.int .i64 nt)) ((y10.set_ 0 (.slice B7 nn d7)).set_ 1 (.int .i64 nt)) (by simp) 2 (.bool ne)
    have rr := cells_store (cells_store (cells_store p7 y10 (by simp) 0 (.slice B7 nn d7)) (y10.set_ 0 (.slice B7 nn d7)) (by simp) 1 (.int .i64 nt)) ((y10.set_ 0 (.slice B7 nn d7)).set_ 1 (.int .i64 nt)) (by simp) 2 (.bool ne)
    have H7 := Lib.hid (And.intro rz (And.intro r3 (And.intro r7 (And.intro r8 (And.intro r10 (And.intro rp (And.intro rq rr)))))))
    clear rz r3 r7 r8 r10 rp rq rr y10 p7 h7 H6 g0 g1 g2 gl k8
    go_upto_region 14 with (fail)
    generalize (((W7.setCell ⟨W3.heap.size, 0, none⟩ (.slice B7 nn d7)).setCell ⟨W3.heap.size, 1, none⟩ (.int .i64 nt)).setCell ⟨W3.heap.size, 2, none⟩ (.bool ne)) = Z7 at H7 ⊢
    clear m0 m1 m2 mf0 mf1 mf2 ml k80 k81 k82 k8l
    have k80 := H7.out.2.2.2.1.cell' (i := 0) rfl
    have k81 := H7.out.2.2.2.1.cell' (i := 1) rfl
    have k82 := H7.out.2.2.2.1.cell' (i := 2) rfl
    have k8l := H7.out.2.2.2.1.lt
    have m0 := H7.out.2.2.2.2.1.cell' (i := 0) rfl
    have m1 := H7.out.2.2.2.2.1.cell' (i := 1) rfl
    have m2 := H7.out.2.2.2.2.1.cell' (i := 2) rfl
    have ml := H7.out.2.2.2.2.1.lt
    go_wp2_with (fail)
    refine (sameP F B6 B7 nn d6 d7 nt ne hnnl _ H7.out.2.2.2.2.2.2.1 H7.out.2.2.2.2.2.2.2).mono ?_
    rintro e W8 ⟨rfl, h8⟩
    have H8 := Lib.hid (And.intro (gr_call H7.out.1 h8) (And.intro (H7.out.2.1.call h8) (And.intro (H7.out.2.2.1.call h8) (And.intro (H7.out.2.2.2.1.call h8) (And.intro (H7.out.2.2.2.2.1.call h8) (H7.out.2.2.2.2.2.1.below h8))))))
    clear h8 H7 k80 k81 k82 k8l m0 m1 m2 ml
    have hnrb : (nr != nr) = false := by simp
    obtain ⟨rn, hrn⟩ : ∃ rn, rn = rnN F n t en m := ⟨_, rfl⟩
    obtain ⟨rt, hrt⟩ : ∃ rt, rt = rnT F n t en G m := ⟨_, rfl⟩
    obtain ⟨re, hre⟩ : ∃ re, re = rnE F n t en G m := ⟨_, rfl⟩
    obtain ⟨rl, hrl⟩ : ∃ rl, rl = rnL F n t en G m := ⟨_, rfl⟩
    obtain ⟨rr, hrr⟩ : ∃ rr, rr = runE F n t en m := ⟨_, rfl⟩
    have hrnl : rn ≤ 1000000 := by rw [hrn]; unfold rnN; split <;> omega
    have HR := Lib.hid (And.intro hrn.symm (And.intro hrt.symm (And.intro hre.symm (And.intro hrl.symm hrr.symm))))
    clear hrn hrt hre hrl hrr
    go_upto_region 16 with (fail)
    have n3 : w.heap.size ≠ W2.heap.size := by omega
    have n7 : W1.heap.size ≠ W2.heap.size := by omega
    have n10 : W3.heap.size ≠ W2.heap.size := by omega
    go_cut [14, 9] from 105 to 112 (fun lv ev wx => (∃ B8 d8, Blk wx W2.heap.size 30 #[.slice B8 rn d8, .int .i64 rt, .bool re] ∧ Cells wx B8 10 rn (flgAt F)) ∧ IntsV rl lv wx ∧ rl.length ≤ m ∧ ev = .int .i64 rr ∧ Below w.heap.size w wx ∧ Blk wx w.heap.size 30 #[.slice A n c, .int .i64 t, .bool en] ∧ Blk wx W1.heap.size 30 #[.slice A1 n c1, .int .i64 t, .bool en] ∧ (∃ cs, Blk wx W3.heap.size 30 cs ∧ cs.size = 3) ∧ Cells wx A1 10 n (flgAt F))
    case first =>
      have e7 := H8.out.2.2.1.cell' (i := 0) rfl
      have e7b := H8.out.2.2.1.cell' (i := 1) rfl
      have e7c := H8.out.2.2.1.cell' (i := 2) rfl
      have e7l := H8.out.2.2.1.lt
      go_region_with (first
        | (go_at_call 25; refine (ownBools G AA m cc hm6 _ HA.out.2.2.2.2.1 (HA.out.2.2.2.2.2.1.below (gr_drew H8.out.1))).mono ?_; rintro e W9 ⟨AB, cb, rfl, o1, _, hb9⟩; have q7 : Blk W9 W1.heap.size 30 #[.slice A1 n c1, .int .i64 t, .bool en] := Blk.call (by exact H8.out.2.2.1) hb9; have i70 := q7.cell' (i := 0) rfl; have i71 := q7.cell' (i := 1) rfl; have i72 := q7.cell' (i := 2) rfl; have i7l := q7.lt)
        | (go_at_call 24; refine (prunU F HA.out.1 A1 AB n c1 m cb t en G ht hn2 hm6 _ (HA.out.2.1.below (gr_call (gr_drew H8.out.1) hb9) (Nat.le_refl _)) HOA.out (Cells.below (by exact H8.out.2.2.2.2.2) hb9) o1).mono ?_; rintro e W10 ⟨v10, l10, rfl, ⟨B8, d8, rfl, p8, _⟩, il, hlen, hb10⟩; rw [HR.out.1, HR.out.2.1, HR.out.2.2.1, HR.out.2.2.2.2]; have q8 := (Blk.call (by exact H8.out.2.2.2.1) hb9).call hb10; have i80 := q8.cell' (i := 0) rfl; have i81 := q8.cell' (i := 1) rfl; have i82 := q8.cell' (i := 2) rfl; have i8f := q8.frozen 0; have i8g := q8.frozen 1; have i8h := q8.frozen 2; have i8l := q8.lt))
      all_goals
        rw [HR.out.1] at p8
        rw [HR.out.2.2.2.1] at il hlen
        have T1 := ((q8.set_ 0 (.slice B8 rn d8)).set_ 1 (.int .i64 rt)).set_ 2 (.bool re)
        have T2 := cells_store (cells_store (cells_store p8 q8 (by simp) 0 (.slice B8 rn d8)) (q8.set_ 0 (.slice B8 rn d8)) (by simp) 1 (.int .i64 rt)) ((q8.set_ 0 (.slice B8 rn d8)).set_ 1 (.int .i64 rt)) (by simp) 2 (.bool re)
        have T3 := (((il.store q8 (by decide) 0 (.slice B8 rn d8)).store (q8.set_ 0 (.slice B8 rn d8)) (by decide) 1 (.int .i64 rt)).store ((q8.set_ 0 (.slice B8 rn d8)).set_ 1 (.int .i64 rt)) (by decide) 2 (.bool re))
        have hb0 := gr_call (gr_call (gr_drew H8.out.1) hb9) hb10
        have T4 := gr_set (gr_set (gr_set hb0 (p := ⟨W2.heap.size, 0, none⟩) (by simp; omega) (.slice B8 rn d8)) (p := ⟨W2.heap.size, 1, none⟩) (by simp; omega) (.int .i64 rt)) (p := ⟨W2.heap.size, 2, none⟩) (by simp; omega) (.bool re)
        have j3 := (Blk.call (by exact H8.out.2.1) hb9).call hb10
        have j7 := (Blk.call (by exact H8.out.2.2.1) hb9).call hb10
        have j10 := (Blk.call (by exact H8.out.2.2.2.2.1) hb9).call hb10
        have T5 := ((j3.far (p := ⟨W2.heap.size, 0, none⟩) n3 (.slice B8 rn d8)).far (p := ⟨W2.heap.size, 1, none⟩) n3 (.int .i64 rt)).far (p := ⟨W2.heap.size, 2, none⟩) n3 (.bool re)
        have T6 := ((j7.far (p := ⟨W2.heap.size, 0, none⟩) n7 (.slice B8 rn d8)).far (p := ⟨W2.heap.size, 1, none⟩) n7 (.int .i64 rt)).far (p := ⟨W2.heap.size, 2, none⟩) n7 (.bool re)
        have T7 := ((j10.far (p := ⟨W2.heap.size, 0, none⟩) n10 (.slice B8 rn d8)).far (p := ⟨W2.heap.size, 1, none⟩) n10 (.int .i64 rt)).far (p := ⟨W2.heap.size, 2, none⟩) n10 (.bool re)
        have jc := (Cells.below (by exact H8.out.2.2.2.2.2) hb9).below hb10
        have T8 := cells_store (cells_store (cells_store jc q8 (by simp) 0 (.slice B8 rn d8)) (q8.set_ 0 (.slice B8 rn d8)) (by simp) 1 (.int .i64 rt)) ((q8.set_ 0 (.slice B8 rn d8)).set_ 1 (.int .i64 rt)) (by simp) 2 (.bool re)
        have HT := Lib.hid (And.intro T1 (And.intro T2 (And.intro T3 (And.intro T4 (And.intro T5 (And.intro T6 (And.intro T7 T8)))))))
        have HL := Lib.hid hlen
        clear T1 T2 T3 T4 T5 T6 T7 T8 hb0 j3 j7 j10 jc q8 il p8 hb9 hb10 hlen q7 o1 e7 e7b e7c e7l i70 i71 i72 i7l i80 i81 i82 i8f i8g i8h i8l
        go_wp2_with (fail)
        go_meet
        exact ⟨⟨B8, d8, HT.out.1, HT.out.2.1⟩, HT.out.2.2.1, HL.out, rfl, HT.out.2.2.2.1, HT.out.2.2.2.2.1, HT.out.2.2.2.2.2.1, ⟨_, HT.out.2.2.2.2.2.2.1, by simp⟩, HT.out.2.2.2.2.2.2.2⟩
    case rest =>
    obtain ⟨⟨B8, d8, v8, p8⟩, il, hlen, rfl, vz, v3, v7, ⟨cs10, v10, hc10⟩, vc⟩ := hcut
    have g0 := v3.cell' (i := 0) rfl
    have g1 := v3.cell' (i := 1) rfl
    have g2 := v3.cell' (i := 2) rfl
    have gl := v3.lt
    have H10 := Lib.hid (And.intro v8 (And.intro p8 (And.intro il (And.intro vz (And.intro v3 (And.intro v7 (And.intro v10 vc)))))))
    have HL := Lib.hid (And.intro hlen hc10)
    clear v8 p8 il vz v3 v7 v10 vc hlen hc10 H8
    go_upto_region 17 with (fail)
    go_wp2_with (fail)
    refine (rrunU F HA.out.1 A AA n c m cc t en G ht hn2 hm6 _ HA.out.2.2.1 (HA.out.2.2.2.1.below H10.out.2.2.2.1) (HA.out.2.2.2.2.2.1.below H10.out.2.2.2.1)).mono ?_
    rintro e W11 ⟨w11, l11, rfl, ⟨B9, d9, rfl, p9, _⟩, il2, _, h11⟩
    rw [HR.out.1, HR.out.2.1, HR.out.2.2.1, HR.out.2.2.2.2]
    rw [HR.out.1] at p9
    rw [HR.out.2.2.2.1] at il2
    have y10 := H10.out.2.2.2.2.2.2.1.call h11
    have hc3 := HL.out.2
    have m0 := y10.cell' (i := 0) (Array.getElem?_eq_getElem (by omega))
    have m1 := y10.cell' (i := 1) (Array.getElem?_eq_getElem (by omega))
    have m2 := y10.cell' (i := 2) (Array.getElem?_eq_getElem (by omega))
    have mf0 := y10.frozen 0
    have mf1 := y10.frozen 1
    have mf2 := y10.frozen 2
    have ml := y10.lt
    have n3b : w.heap.size ≠ W3.heap.size := by omega
    have n7b : W1.heap.size ≠ W3.heap.size := by omega
    have n8b : W2.heap.size ≠ W3.heap.size := by omega
    have T8 := (((H10.out.1.call h11).far (p := ⟨W3.heap.size, 0, none⟩) n8b (.slice B9 rn d9)).far (p := ⟨W3.heap.size, 1, none⟩) n8b (.int .i64 rt)).far (p := ⟨W3.heap.size, 2, none⟩) n8b (.bool re)
    have T3 := (((H10.out.2.2.2.2.1.call h11).far (p := ⟨W3.heap.size, 0, none⟩) n3b (.slice B9 rn d9)).far (p := ⟨W3.heap.size, 1, none⟩) n3b (.int .i64 rt)).far (p := ⟨W3.heap.size, 2, none⟩) n3b (.bool re)
    have T7 := (((H10.out.2.2.2.2.2.1.call h11).far (p := ⟨W3.heap.size, 0, none⟩) n7b (.slice B9 rn d9)).far (p := ⟨W3.heap.size, 1, none⟩) n7b (.int .i64 rt)).far (p := ⟨W3.heap.size, 2, none⟩) n7b (.bool re)
    have T10 := ((y10.set_ 0 (.slice B9 rn d9)).set_ 1 (.int .i64 rt)).set_ 2 (.bool re)
    have hx0 : ((cs10.setIfInBounds 0 (.slice B9 rn d9)).setIfInBounds 1 (.int .i64 rt)).setIfInBounds 2 (.bool re) = #[.slice B9 rn d9, .int .i64 rt, .bool re] := set_three hc3 _ _ _
    rw [hx0] at T10
    have C8 := cells_store (cells_store (cells_store (H10.out.2.1.below h11) y10 (by omega) 0 (.slice B9 rn d9)) (y10.set_ 0 (.slice B9 rn d9)) (by simp; omega) 1 (.int .i64 rt)) ((y10.set_ 0 (.slice B9 rn d9)).set_ 1 (.int .i64 rt)) (by simp; omega) 2 (.bool re)
    have C9 := cells_store (cells_store (cells_store p9 y10 (by omega) 0 (.slice B9 rn d9)) (y10.set_ 0 (.slice B9 rn d9)) (by simp; omega) 1 (.int .i64 rt)) ((y10.set_ 0 (.slice B9 rn d9)).set_ 1 (.int .i64 rt)) (by simp; omega) 2 (.bool re)
    have CA := cells_store (cells_store (cells_store (H10.out.2.2.2.2.2.2.2.below h11) y10 (by omega) 0 (.slice B9 rn d9)) (y10.set_ 0 (.slice B9 rn d9)) (by simp; omega) 1 (.int .i64 rt)) ((y10.set_ 0 (.slice B9 rn d9)).set_ 1 (.int .i64 rt)) (by simp; omega) 2 (.bool re)
    have I1 := ((((H10.out.2.2.1.below h11).store y10 (by decide) 0 (.slice B9 rn d9)).store (y10.set_ 0 (.slice B9 rn d9)) (by decide) 1 (.int .i64 rt)).store ((y10.set_ 0 (.slice B9 rn d9)).set_ 1 (.int .i64 rt)) (by decide) 2 (.bool re))
    have I2 := (((il2.store y10 (by decide) 0 (.slice B9 rn d9)).store (y10.set_ 0 (.slice B9 rn d9)) (by decide) 1 (.int .i64 rt)).store ((y10.set_ 0 (.slice B9 rn d9)).set_ 1 (.int .i64 rt)) (by decide) 2 (.bool re))
    have TZ : Below w.heap.size w (((W11.setCell ⟨W3.heap.size, 0, none⟩ (.slice B9 rn d9)).setCell ⟨W3.heap.size, 1, none⟩ (.int .i64 rt)).setCell ⟨W3.heap.size, 2, none⟩ (.bool re)) := gr_set (gr_set (gr_set (gr_call H10.out.2.2.2.1 h11) (by simp; omega) _) (by simp; omega) _) (by simp; omega) _
    have H11 := Lib.hid (And.intro T8 (And.intro T3 (And.intro T7 (And.intro T10 (And.intro C8 (And.intro C9 (And.intro CA (And.intro I1 (And.intro I2 TZ)))))))))
    clear T8 T3 T7 T10 C8 C9 CA I1 I2 TZ hx0 y10 p9 il2 h11 H10 g0 g1 g2 gl
    go_upto_region 18 with (fail)
    generalize (((W11.setCell ⟨W3.heap.size, 0, none⟩ (.slice B9 rn d9)).setCell ⟨W3.heap.size, 1, none⟩ (.int .i64 rt)).setCell ⟨W3.heap.size, 2, none⟩ (.bool re)) = Z at H11 ⊢
    clear m0 m1 m2 mf0 mf1 mf2 ml
    obtain ⟨AL, cl, rfl, jl, _⟩ := H11.out.2.2.2.2.2.2.2.1
    obtain ⟨AM, cm, rfl, jm, _⟩ := H11.out.2.2.2.2.2.2.2.2.1
    have k80 := H11.out.1.cell' (i := 0) rfl
    have k81 := H11.out.1.cell' (i := 1) rfl
    have k82 := H11.out.1.cell' (i := 2) rfl
    have k8l := H11.out.1.lt
    have m0 := H11.out.2.2.2.1.cell' (i := 0) rfl
    have m1 := H11.out.2.2.2.1.cell' (i := 1) rfl
    have m2 := H11.out.2.2.2.1.cell' (i := 2) rfl
    have ml := H11.out.2.2.2.1.lt
    go_wp2_with (fail)
    refine (sameP F B8 B9 rn d8 d9 rt re hrnl _ H11.out.2.2.2.2.1 H11.out.2.2.2.2.2.1).mono ?_
    rintro e W12 ⟨rfl, h12⟩
    clear k80 k81 k82 k8l m0 m1 m2 ml
    have JL := Lib.hid (And.intro (jl.below h12) (jm.below h12))
    have H12 := Lib.hid (And.intro (gr_call H11.out.2.2.2.2.2.2.2.2.2 h12) (And.intro (H11.out.2.1.call h12) (And.intro (H11.out.2.2.1.call h12) (H11.out.2.2.2.2.2.2.1.below h12))))
    clear jl jm h12 H11
    have hrrb : (rr == rr) = true := by simp
    go_wp2_with (fail)
    have kk := sameInts (rl.map fun (k : Nat) => (k : Int)) (rl.map fun (k : Nat) => (k : Int)) AL AM cl cm (by rw [List.length_map]; exact Nat.le_trans HL.out.1 hm6) (by rw [List.length_map]; exact Nat.le_trans HL.out.1 hm6) W12 JL.out.1 JL.out.2
    rw [List.length_map, decide_eq_true rfl] at kk
    refine kk.mono ?_
    clear kk
    rintro e W13 ⟨rfl, h13⟩
    have H13 := Lib.hid (And.intro (gr_call H12.out.1 h13) (And.intro (H12.out.2.1.call h13) (And.intro (H12.out.2.2.1.call h13) (H12.out.2.2.2.below h13))))
    have g0 := H13.out.2.1.cell' (i := 0) rfl
    have g1 := H13.out.2.1.cell' (i := 1) rfl
    have g2 := H13.out.2.1.cell' (i := 2) rfl
    have gl := H13.out.2.1.lt
    have m0 := H13.out.2.2.1.cell' (i := 0) rfl
    have m1 := H13.out.2.2.1.cell' (i := 1) rfl
    have m2 := H13.out.2.2.1.cell' (i := 2) rfl
    have ml := H13.out.2.2.1.lt
    clear h13 H12 JL
    go_wp2_with (fail)
    refine (sameP F A1 A n c1 c t en hn2 _ H13.out.2.2.2 (HA.out.2.2.2.1.below H13.out.1)).mono ?_
    rintro e W14 ⟨rfl, h14⟩
    have H14 := Lib.hid (gr_call H13.out.1 h14)
    clear h14 H13 g0 g1 g2 gl m0 m1 m2 ml
    go_wp2_with (fail)
    refine (awake _ (HA.out.2.1.below H14.out (Nat.le_refl _))).mono ?_
    rintro e W15 ⟨rfl, h15⟩
    have H15 := Lib.hid (gr_call H14.out h15)
    clear h15 H14
    go_wp2_with (fail)
    go_ret
    exact ⟨rfl, H15.out⟩

set_option maxRecDepth 100000 in
set_option maxHeartbeats 4000000 in
theorem law_steps (F : Nat → Flg) (hF : SkipOk F) (A AA : Option Addr) (n c m cc : Nat) (t : Int) (en h : Bool) (G : Nat → Bool) (ht : -9223372036854775808 ≤ t ∧ t ≤ 9223372036854775807) (w : World) (hT : Tabs w) (hO : ArgOk A n c) (hA : Cells w A 10 n (flgAt F)) (hOg : ArgOk AA m cc) (hg : Cells w AA 1 m (boolAt G)) :
    Calls Tryd.prog 4 #[.agg #[.slice A n c, .int .i64 t, .bool en], .bool h, .slice AA m cc] w fun e W' => e = .returned (.bool true) ∧ Below w.heap.size w W' := by
  by_cases hc : n ≤ 100 ∧ (m ≤ 300 ∨ (10000 < m ∧ m ≤ 10010))
  · exact steps_short F hF A AA n c m cc t en h G ht hc.1 hc.2 w hT hO hA hOg hg
  have z0 := gr_alloc (Below.refl w.heap.size w) (.cells #[.slice A n c, .int .i64 t, .bool en] 30)
  have f0 := Blk.new w 30 #[.slice A n c, .int .i64 t, .bool en]
  have u0 := f0.cell' (i := 0) rfl
  have u1 := f0.cell' (i := 1) rfl
  have u2 := f0.cell' (i := 2) rfl
  have ul := f0.lt
  have H0 := Lib.hid (And.intro hT z0)
  have HC := Lib.hid hc
  clear z0 f0 hF hT hO hA hOg hg hc
  go_enter Tryd.func4, Tryd.ntmps4
  go_upto_region 1 with (fail)
  go_cut [34] from 16 to 34 (fun v wx => v = .bool true ∧ wx = w.alloc (.cells #[.slice A n c, .int .i64 t, .bool en] 30))
  case first =>
    by_cases h1 : (100 : Int) < (n : Int)
    · go_wp2_with (fail)
      all_goals go_meet
      all_goals exact ⟨rfl, rfl⟩
    · by_cases h2 : (300 : Int) < (m : Int)
      · by_cases h3 : (m : Int) ≤ 10000
        · go_wp2_with (fail)
          all_goals go_meet
          all_goals exact ⟨rfl, rfl⟩
        · have h4 : (10010 : Int) < (m : Int) := by have := HC.out; omega
          go_wp2_with (fail)
          all_goals go_meet
          all_goals exact ⟨rfl, rfl⟩
      · exact absurd HC.out (by omega)
  case rest =>
  obtain ⟨rfl, rfl⟩ := hcut
  go_wp2_with (fail)
  refine (awake _ (H0.out.1.below H0.out.2 (Nat.le_refl _))).mono ?_
  rintro e W1 ⟨rfl, h1⟩
  have H1 := Lib.hid (gr_call H0.out.2 h1)
  clear h1 u0 u1 u2 ul
  go_wp2_with (fail)
  go_ret
  exact ⟨rfl, H1.out⟩
end Go.Proofs.YtjkmkpehnnkpiaaDoor
