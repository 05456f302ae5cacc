/-
  FlagChecks, walked; conditions: the two tables lie as they are laid, a variable of the library is an int.
-/
import Derived.Test.YtlipjagdlpkjpaaDoorFtV
import Derived.Deep.RegionWith
import Derived.Test.YtlipjagdlpkjpaaDoorInw
namespace Go.Proofs.YtlipjagdlpkjpaaDoor
open Go.RowKit Go.Joins
set_option linter.unusedVariables false
set_option linter.unusedSimpArgs false

theorem sameCodes (A B : Option Addr) (c d : Nat) (w : World) (hA : Cells w A 1 5 (intsAt codesL)) (hB : Cells w B 1 5 (intsAt codesL)) :
    Calls Tryd.prog 20 #[.slice A 5 c, .slice B 5 d] w fun e W' => e = .returned (.bool true) ∧ Below w.heap.size w W' := by
  have h := sameInts codesL codesL A B c d (by decide) (by decide) w hA hB
  rw [decide_eq_true rfl] at h
  exact h

set_option maxRecDepth 100000 in
set_option maxHeartbeats 4000000 in
theorem law_checks (f : Flg) (hf : FlgOk f) (w : World) (hT : Tabs w) (hm : MaxOk w) :
    Calls Tryd.prog 4 #[Value.agg #[Value.bool f.last, .bool f.next, .bool f.chain, .bool f.fin, .bool f.forb, .bool f.gone, .bool f.app, .bool f.disc, .int .i64 f.skip, .int .i64 f.red]] w fun e W' => e = .returned (.bool true) ∧ Below w.heap.size w W' := by
  have HT := Lib.hid (And.intro hT (And.intro hm hf.1))
  have HB0 := Lib.hid (And.intro (Blk.new w 24 #[Value.bool f.last, .bool f.next, .bool f.chain, .bool f.fin, .bool f.forb, .bool f.gone, .bool f.app, .bool f.disc, .int .i64 f.skip, .int .i64 f.red]) (gr_alloc (Below.refl w.heap.size w) (.cells #[Value.bool f.last, .bool f.next, .bool f.chain, .bool f.fin, .bool f.forb, .bool f.gone, .bool f.app, .bool f.disc, .int .i64 f.skip, .int .i64 f.red] 24)))
  clear hT hm hf
  obtain ⟨tv, htv⟩ : ∃ x, x = textV f := ⟨_, rfl⟩
  obtain ⟨en, hen⟩ : ∃ x, x = endsV f := ⟨_, rfl⟩
  obtain ⟨sb, hsb⟩ : ∃ x, x = stillB f := ⟨_, rfl⟩
  obtain ⟨ce, hce⟩ : ∃ x, x = chkF f := ⟨_, rfl⟩
  have HV := Lib.hid (And.intro htv (And.intro hen (And.intro hsb hce)))
  clear htv hen hsb hce
  go_enter Tryd.func4, Tryd.ntmps4
  go_wp2_with (fail)
  refine (ftext f HT.out.2.2 _ (HT.out.1.below HB0.out.2 (Nat.le_refl _)) (HT.out.2.1.below HB0.out.2 (Nat.le_refl _))).mono ?_
  rintro e W1 ⟨rfl, h⟩
  rw [← HV.out.1, ← HV.out.2.2.2]
  have HB1 := Lib.hid (And.intro (HB0.out.1.call h) (gr_call HB0.out.2 h))
  clear h
  have k0 : W1.cell? ⟨w.heap.size, 0, none⟩ = some (.bool f.last) := HB1.out.1.cell' (i := 0) rfl
  have k1 : W1.cell? ⟨w.heap.size, 1, none⟩ = some (.bool f.next) := HB1.out.1.cell' (i := 1) rfl
  have k2 : W1.cell? ⟨w.heap.size, 2, none⟩ = some (.bool f.chain) := HB1.out.1.cell' (i := 2) rfl
  have k3 : W1.cell? ⟨w.heap.size, 3, none⟩ = some (.bool f.fin) := HB1.out.1.cell' (i := 3) rfl
  have k4 : W1.cell? ⟨w.heap.size, 4, none⟩ = some (.bool f.forb) := HB1.out.1.cell' (i := 4) rfl
  have k5 : W1.cell? ⟨w.heap.size, 5, none⟩ = some (.bool f.gone) := HB1.out.1.cell' (i := 5) rfl
  have k6 : W1.cell? ⟨w.heap.size, 6, none⟩ = some (.bool f.app) := HB1.out.1.cell' (i := 6) rfl
  have k7 : W1.cell? ⟨w.heap.size, 7, none⟩ = some (.bool f.disc) := HB1.out.1.cell' (i := 7) rfl
  have k8 : W1.cell? ⟨w.heap.size, 8, none⟩ = some (.int .i64 f.skip) := HB1.out.1.cell' (i := 8) rfl
  have k9 : W1.cell? ⟨w.heap.size, 9, none⟩ = some (.int .i64 f.red) := HB1.out.1.cell' (i := 9) rfl
  have klt := HB1.out.1.lt
  go_wp2_with (fail)
  refine (rtext f HT.out.2.2 _).mono ?_
  rintro e W2 ⟨rfl, h⟩
  rw [← HV.out.1, ← HV.out.2.2.2]
  have HB2 := Lib.hid (And.intro (HB1.out.1.call h) (gr_call HB1.out.2 h))
  clear h
  clear k0 k1 k2 k3 k4 k5 k6 k7 k8 k9 klt
  have k0 : W2.cell? ⟨w.heap.size, 0, none⟩ = some (.bool f.last) := HB2.out.1.cell' (i := 0) rfl
  have k1 : W2.cell? ⟨w.heap.size, 1, none⟩ = some (.bool f.next) := HB2.out.1.cell' (i := 1) rfl
  have k2 : W2.cell? ⟨w.heap.size, 2, none⟩ = some (.bool f.chain) := HB2.out.1.cell' (i := 2) rfl
  have k3 : W2.cell? ⟨w.heap.size, 3, none⟩ = some (.bool f.fin) := HB2.out.1.cell' (i := 3) rfl
  have k4 : W2.cell? ⟨w.heap.size, 4, none⟩ = some (.bool f.forb) := HB2.out.1.cell' (i := 4) rfl
  have k5 : W2.cell? ⟨w.heap.size, 5, none⟩ = some (.bool f.gone) := HB2.out.1.cell' (i := 5) rfl
  have k6 : W2.cell? ⟨w.heap.size, 6, none⟩ = some (.bool f.app) := HB2.out.1.cell' (i := 6) rfl
  have k7 : W2.cell? ⟨w.heap.size, 7, none⟩ = some (.bool f.disc) := HB2.out.1.cell' (i := 7) rfl
  have k8 : W2.cell? ⟨w.heap.size, 8, none⟩ = some (.int .i64 f.skip) := HB2.out.1.cell' (i := 8) rfl
  have k9 : W2.cell? ⟨w.heap.size, 9, none⟩ = some (.int .i64 f.red) := HB2.out.1.cell' (i := 9) rfl
  have klt := HB2.out.1.lt
  go_wp2_with (fail)
  refine (fends f HT.out.2.2 _ (HT.out.1.below HB2.out.2 (Nat.le_refl _))).mono ?_
  rintro e W3 ⟨rfl, h⟩
  rw [← HV.out.2.1, ← HV.out.2.2.2]
  have HB3 := Lib.hid (And.intro (HB2.out.1.call h) (gr_call HB2.out.2 h))
  clear h
  clear k0 k1 k2 k3 k4 k5 k6 k7 k8 k9 klt
  have k0 : W3.cell? ⟨w.heap.size, 0, none⟩ = some (.bool f.last) := HB3.out.1.cell' (i := 0) rfl
  have k1 : W3.cell? ⟨w.heap.size, 1, none⟩ = some (.bool f.next) := HB3.out.1.cell' (i := 1) rfl
  have k2 : W3.cell? ⟨w.heap.size, 2, none⟩ = some (.bool f.chain) := HB3.out.1.cell' (i := 2) rfl
  have k3 : W3.cell? ⟨w.heap.size, 3, none⟩ = some (.bool f.fin) := HB3.out.1.cell' (i := 3) rfl
  have k4 : W3.cell? ⟨w.heap.size, 4, none⟩ = some (.bool f.forb) := HB3.out.1.cell' (i := 4) rfl
  have k5 : W3.cell? ⟨w.heap.size, 5, none⟩ = some (.bool f.gone) := HB3.out.1.cell' (i := 5) rfl
  have k6 : W3.cell? ⟨w.heap.size, 6, none⟩ = some (.bool f.app) := HB3.out.1.cell' (i := 6) rfl
  have k7 : W3.cell? ⟨w.heap.size, 7, none⟩ = some (.bool f.disc) := HB3.out.1.cell' (i := 7) rfl
  have k8 : W3.cell? ⟨w.heap.size, 8, none⟩ = some (.int .i64 f.skip) := HB3.out.1.cell' (i := 8) rfl
  have k9 : W3.cell? ⟨w.heap.size, 9, none⟩ = some (.int .i64 f.red) := HB3.out.1.cell' (i := 9) rfl
  have klt := HB3.out.1.lt
  go_wp2_with (fail)
  refine (rEnds f HT.out.2.2 _).mono ?_
  rintro e W4 ⟨rfl, h⟩
  rw [← HV.out.2.1, ← HV.out.2.2.2]
  have HB4 := Lib.hid (And.intro (HB3.out.1.call h) (gr_call HB3.out.2 h))
  clear h
  clear k0 k1 k2 k3 k4 k5 k6 k7 k8 k9 klt
  have k0 : W4.cell? ⟨w.heap.size, 0, none⟩ = some (.bool f.last) := HB4.out.1.cell' (i := 0) rfl
  have k1 : W4.cell? ⟨w.heap.size, 1, none⟩ = some (.bool f.next) := HB4.out.1.cell' (i := 1) rfl
  have k2 : W4.cell? ⟨w.heap.size, 2, none⟩ = some (.bool f.chain) := HB4.out.1.cell' (i := 2) rfl
  have k3 : W4.cell? ⟨w.heap.size, 3, none⟩ = some (.bool f.fin) := HB4.out.1.cell' (i := 3) rfl
  have k4 : W4.cell? ⟨w.heap.size, 4, none⟩ = some (.bool f.forb) := HB4.out.1.cell' (i := 4) rfl
  have k5 : W4.cell? ⟨w.heap.size, 5, none⟩ = some (.bool f.gone) := HB4.out.1.cell' (i := 5) rfl
  have k6 : W4.cell? ⟨w.heap.size, 6, none⟩ = some (.bool f.app) := HB4.out.1.cell' (i := 6) rfl
  have k7 : W4.cell? ⟨w.heap.size, 7, none⟩ = some (.bool f.disc) := HB4.out.1.cell' (i := 7) rfl
  have k8 : W4.cell? ⟨w.heap.size, 8, none⟩ = some (.int .i64 f.skip) := HB4.out.1.cell' (i := 8) rfl
  have k9 : W4.cell? ⟨w.heap.size, 9, none⟩ = some (.int .i64 f.red) := HB4.out.1.cell' (i := 9) rfl
  have klt := HB4.out.1.lt
  go_wp2_with (fail)
  refine (fstill f HT.out.2.2 _ (HT.out.1.below HB4.out.2 (Nat.le_refl _))).mono ?_
  rintro e W5 ⟨rfl, h⟩
  rw [← HV.out.2.2.1, ← HV.out.2.2.2]
  have HB5 := Lib.hid (And.intro (HB4.out.1.call h) (gr_call HB4.out.2 h))
  clear h
  clear k0 k1 k2 k3 k4 k5 k6 k7 k8 k9 klt
  have k0 : W5.cell? ⟨w.heap.size, 0, none⟩ = some (.bool f.last) := HB5.out.1.cell' (i := 0) rfl
  have k1 : W5.cell? ⟨w.heap.size, 1, none⟩ = some (.bool f.next) := HB5.out.1.cell' (i := 1) rfl
  have k2 : W5.cell? ⟨w.heap.size, 2, none⟩ = some (.bool f.chain) := HB5.out.1.cell' (i := 2) rfl
  have k3 : W5.cell? ⟨w.heap.size, 3, none⟩ = some (.bool f.fin) := HB5.out.1.cell' (i := 3) rfl
  have k4 : W5.cell? ⟨w.heap.size, 4, none⟩ = some (.bool f.forb) := HB5.out.1.cell' (i := 4) rfl
  have k5 : W5.cell? ⟨w.heap.size, 5, none⟩ = some (.bool f.gone) := HB5.out.1.cell' (i := 5) rfl
  have k6 : W5.cell? ⟨w.heap.size, 6, none⟩ = some (.bool f.app) := HB5.out.1.cell' (i := 6) rfl
  have k7 : W5.cell? ⟨w.heap.size, 7, none⟩ = some (.bool f.disc) := HB5.out.1.cell' (i := 7) rfl
  have k8 : W5.cell? ⟨w.heap.size, 8, none⟩ = some (.int .i64 f.skip) := HB5.out.1.cell' (i := 8) rfl
  have k9 : W5.cell? ⟨w.heap.size, 9, none⟩ = some (.int .i64 f.red) := HB5.out.1.cell' (i := 9) rfl
  have klt := HB5.out.1.lt
  go_wp2_with (fail)
  refine (rstill f HT.out.2.2 _).mono ?_
  rintro e W6 ⟨rfl, h⟩
  rw [← HV.out.2.2.1, ← HV.out.2.2.2]
  have HB6 := Lib.hid (And.intro (HB5.out.1.call h) (gr_call HB5.out.2 h))
  clear h
  clear k0 k1 k2 k3 k4 k5 k6 k7 k8 k9 klt
  have k0 : W6.cell? ⟨w.heap.size, 0, none⟩ = some (.bool f.last) := HB6.out.1.cell' (i := 0) rfl
  have k1 : W6.cell? ⟨w.heap.size, 1, none⟩ = some (.bool f.next) := HB6.out.1.cell' (i := 1) rfl
  have k2 : W6.cell? ⟨w.heap.size, 2, none⟩ = some (.bool f.chain) := HB6.out.1.cell' (i := 2) rfl
  have k3 : W6.cell? ⟨w.heap.size, 3, none⟩ = some (.bool f.fin) := HB6.out.1.cell' (i := 3) rfl
  have k4 : W6.cell? ⟨w.heap.size, 4, none⟩ = some (.bool f.forb) := HB6.out.1.cell' (i := 4) rfl
  have k5 : W6.cell? ⟨w.heap.size, 5, none⟩ = some (.bool f.gone) := HB6.out.1.cell' (i := 5) rfl
  have k6 : W6.cell? ⟨w.heap.size, 6, none⟩ = some (.bool f.app) := HB6.out.1.cell' (i := 6) rfl
  have k7 : W6.cell? ⟨w.heap.size, 7, none⟩ = some (.bool f.disc) := HB6.out.1.cell' (i := 7) rfl
  have k8 : W6.cell? ⟨w.heap.size, 8, none⟩ = some (.int .i64 f.skip) := HB6.out.1.cell' (i := 8) rfl
  have k9 : W6.cell? ⟨w.heap.size, 9, none⟩ = some (.int .i64 f.red) := HB6.out.1.cell' (i := 9) rfl
  have klt := HB6.out.1.lt
  go_wp2_with (fail)
  clear k0 k1 k2 k3 k4 k5 k6 k7 k8 k9 klt
  refine wp_region_late 44 [] (fun d x v => match d with
    | 45 => v = Value.agg #[Value.bool f.last, .bool f.next, .bool f.chain, .bool f.fin, .bool f.forb, .bool f.gone, .bool f.app, .bool f.disc, .int .i64 f.skip, .int .i64 f.red]
    | 46 => v = .int .i64 ce
    | 47 => v = Value.agg #[Value.bool f.last, .bool f.next, .bool f.chain, .bool f.fin, .bool f.forb, .bool f.gone, .bool f.app, .bool f.disc, .int .i64 f.skip, .int .i64 f.red]
    | 48 => v = .int .i64 ce
    | 51 => v = .string tv
    | 52 => v = .string tv
    | 56 => v = .int .i64 ce
    | 57 => v = .int .i64 ce
    | 61 => v = .string en
    | 62 => v = .string en
    | 66 => v = .int .i64 ce
    | 67 => v = .int .i64 ce
    | 71 => v = .bool sb
    | 72 => v = .bool sb
    | 76 => v = .int .i64 ce
    | 77 => v = .int .i64 ce
    | 81 => ∃ A c, v = .slice A 5 c ∧ Cells x A 1 5 (intsAt codesL)
    | 82 => ∃ A c, v = .slice A 5 c ∧ Cells x A 1 5 (intsAt codesL)
    | _ => v = .bool true) (by kernel_rfl) (by kernel_rfl) (by kernel_rfl) (by kernel_rfl) (by decide) ?stable ?dist ?steps ?fin
  case stable =>
    intro d x x' v hB h
    revert h
    split <;> intro h <;> first
      | exact h
      | (obtain ⟨A, c, h1, h2⟩ := h
         exact ⟨A, c, h1, h2.below hB⟩)
  case dist =>
    intro d hd
    cases hd
  case steps =>
    refine ⟨?_, ?_⟩
    · intro a w' hB hsz hbase hdeps K hK
      obtain ⟨ev, hev⟩ : ∃ ev, ev = a.eval := ⟨_, rfl⟩
      have hec : ∀ v, ev (.const v) = v := fun v => by rw [hev]; rfl
      have hef : ∀ f, ev (.func f) = .func (.func f) #[] #[] := fun f => by rw [hev]; rfl
      rw [← hev] at hbase hdeps
      have b1 : ev (.tmp 1) = (.pointer (some ⟨w.heap.size, 0, none⟩)) := (hbase 1 (by kernel_rfl))
      rw [if_pos (by kernel_rfl)]
      left
      have xb := HB6.out.1.call hB
      have xl := xb.lt
      have x0 : w'.cell? ⟨w.heap.size, 0, none⟩ = some (.bool f.last) := xb.cell' (i := 0) rfl
      have x1 : w'.cell? ⟨w.heap.size, 1, none⟩ = some (.bool f.next) := xb.cell' (i := 1) rfl
      have x2 : w'.cell? ⟨w.heap.size, 2, none⟩ = some (.bool f.chain) := xb.cell' (i := 2) rfl
      have x3 : w'.cell? ⟨w.heap.size, 3, none⟩ = some (.bool f.fin) := xb.cell' (i := 3) rfl
      have x4 : w'.cell? ⟨w.heap.size, 4, none⟩ = some (.bool f.forb) := xb.cell' (i := 4) rfl
      have x5 : w'.cell? ⟨w.heap.size, 5, none⟩ = some (.bool f.gone) := xb.cell' (i := 5) rfl
      have x6 : w'.cell? ⟨w.heap.size, 6, none⟩ = some (.bool f.app) := xb.cell' (i := 6) rfl
      have x7 : w'.cell? ⟨w.heap.size, 7, none⟩ = some (.bool f.disc) := xb.cell' (i := 7) rfl
      have x8 : w'.cell? ⟨w.heap.size, 8, none⟩ = some (.int .i64 f.skip) := xb.cell' (i := 8) rfl
      have x9 : w'.cell? ⟨w.heap.size, 9, none⟩ = some (.int .i64 f.red) := xb.cell' (i := 9) rfl
      clear xb
      refine step_val (v := Value.agg #[Value.bool f.last, .bool f.next, .bool f.chain, .bool f.fin, .bool f.forb, .bool f.gone, .bool f.app, .bool f.disc, .int .i64 f.skip, .int .i64 f.red]) (w' := w') ?_ (hK _ _ (Below.refl _ _) (by intro d hd; cases hd; exact rfl) (by intro d hd hm; cases hd; exact absurd hm (by decide)))
      rw [← hev]
      clear hK hdeps hbase hev
      simp only [execOp, hec, hef, b1]
      go_simp
    refine ⟨?_, ?_⟩
    · intro a w' hB hsz hbase hdeps K hK
      obtain ⟨ev, hev⟩ : ∃ ev, ev = a.eval := ⟨_, rfl⟩
      have hec : ∀ v, ev (.const v) = v := fun v => by rw [hev]; rfl
      have hef : ∀ f, ev (.func f) = .func (.func f) #[] #[] := fun f => by rw [hev]; rfl
      rw [← hev] at hbase hdeps
      have d45 : ev (.tmp 45) = Value.agg #[Value.bool f.last, .bool f.next, .bool f.chain, .bool f.fin, .bool f.forb, .bool f.gone, .bool f.app, .bool f.disc, .int .i64 f.skip, .int .i64 f.red] := hdeps 45 (of_decide_eq_true (by kernel_rfl))
      rw [if_pos (by kernel_rfl)]
      left
      refine step_enter (w' := w') (f := 18) (args := #[Value.agg #[Value.bool f.last, .bool f.next, .bool f.chain, .bool f.fin, .bool f.forb, .bool f.gone, .bool f.app, .bool f.disc, .int .i64 f.skip, .int .i64 f.red]]) ?_ ?_
      · rw [← hev]
        clear hK hdeps hbase hev
        simp only [execOp, hec, hef, d45]
        go_simp
      · refine ((by have k := fcheck f HT.out.2.2 w' (HT.out.1.below (gr_call HB6.out.2 hB) (Nat.le_refl _)); rw [← HV.out.2.2.2] at k; exact k : Calls Tryd.prog 18 #[Value.agg #[Value.bool f.last, .bool f.next, .bool f.chain, .bool f.fin, .bool f.forb, .bool f.gone, .bool f.app, .bool f.disc, .int .i64 f.skip, .int .i64 f.red]] w' fun e W' => e = .returned (.int .i64 ce) ∧ Below w'.heap.size w' W')).mono ?_
        rintro e W ⟨rfl, hb⟩
        exact ⟨_, rfl, hK _ _ hb (by intro d hd; cases hd; exact rfl) (by intro d hd hm; cases hd; exact absurd hm (by decide))⟩
    refine ⟨?_, ?_⟩
    · intro a w' hB hsz hbase hdeps K hK
      obtain ⟨ev, hev⟩ : ∃ ev, ev = a.eval := ⟨_, rfl⟩
      have hec : ∀ v, ev (.const v) = v := fun v => by rw [hev]; rfl
      have hef : ∀ f, ev (.func f) = .func (.func f) #[] #[] := fun f => by rw [hev]; rfl
      rw [← hev] at hbase hdeps
      have b1 : ev (.tmp 1) = (.pointer (some ⟨w.heap.size, 0, none⟩)) := (hbase 1 (by kernel_rfl))
      rw [if_pos (by kernel_rfl)]
      left
      have xb := HB6.out.1.call hB
      have xl := xb.lt
      have x0 : w'.cell? ⟨w.heap.size, 0, none⟩ = some (.bool f.last) := xb.cell' (i := 0) rfl
      have x1 : w'.cell? ⟨w.heap.size, 1, none⟩ = some (.bool f.next) := xb.cell' (i := 1) rfl
      have x2 : w'.cell? ⟨w.heap.size, 2, none⟩ = some (.bool f.chain) := xb.cell' (i := 2) rfl
      have x3 : w'.cell? ⟨w.heap.size, 3, none⟩ = some (.bool f.fin) := xb.cell' (i := 3) rfl
      have x4 : w'.cell? ⟨w.heap.size, 4, none⟩ = some (.bool f.forb) := xb.cell' (i := 4) rfl
      have x5 : w'.cell? ⟨w.heap.size, 5, none⟩ = some (.bool f.gone) := xb.cell' (i := 5) rfl
      have x6 : w'.cell? ⟨w.heap.size, 6, none⟩ = some (.bool f.app) := xb.cell' (i := 6) rfl
      have x7 : w'.cell? ⟨w.heap.size, 7, none⟩ = some (.bool f.disc) := xb.cell' (i := 7) rfl
      have x8 : w'.cell? ⟨w.heap.size, 8, none⟩ = some (.int .i64 f.skip) := xb.cell' (i := 8) rfl
      have x9 : w'.cell? ⟨w.heap.size, 9, none⟩ = some (.int .i64 f.red) := xb.cell' (i := 9) rfl
      clear xb
      refine step_val (v := Value.agg #[Value.bool f.last, .bool f.next, .bool f.chain, .bool f.fin, .bool f.forb, .bool f.gone, .bool f.app, .bool f.disc, .int .i64 f.skip, .int .i64 f.red]) (w' := w') ?_ (hK _ _ (Below.refl _ _) (by intro d hd; cases hd; exact rfl) (by intro d hd hm; cases hd; exact absurd hm (by decide)))
      rw [← hev]
      clear hK hdeps hbase hev
      simp only [execOp, hec, hef, b1]
      go_simp
    refine ⟨?_, ?_⟩
    · intro a w' hB hsz hbase hdeps K hK
      obtain ⟨ev, hev⟩ : ∃ ev, ev = a.eval := ⟨_, rfl⟩
      have hec : ∀ v, ev (.const v) = v := fun v => by rw [hev]; rfl
      have hef : ∀ f, ev (.func f) = .func (.func f) #[] #[] := fun f => by rw [hev]; rfl
      rw [← hev] at hbase hdeps
      have d47 : ev (.tmp 47) = Value.agg #[Value.bool f.last, .bool f.next, .bool f.chain, .bool f.fin, .bool f.forb, .bool f.gone, .bool f.app, .bool f.disc, .int .i64 f.skip, .int .i64 f.red] := hdeps 47 (of_decide_eq_true (by kernel_rfl))
      rw [if_pos (by kernel_rfl)]
      left
      refine step_enter (w' := w') (f := 19) (args := #[Value.agg #[Value.bool f.last, .bool f.next, .bool f.chain, .bool f.fin, .bool f.forb, .bool f.gone, .bool f.app, .bool f.disc, .int .i64 f.skip, .int .i64 f.red]]) ?_ ?_
      · rw [← hev]
        clear hK hdeps hbase hev
        simp only [execOp, hec, hef, d47]
        go_simp
      · refine ((by have k := rcheck f HT.out.2.2 w'; rw [← HV.out.2.2.2] at k; exact k : Calls Tryd.prog 19 #[Value.agg #[Value.bool f.last, .bool f.next, .bool f.chain, .bool f.fin, .bool f.forb, .bool f.gone, .bool f.app, .bool f.disc, .int .i64 f.skip, .int .i64 f.red]] w' fun e W' => e = .returned (.int .i64 ce) ∧ Below w'.heap.size w' W')).mono ?_
        rintro e W ⟨rfl, hb⟩
        exact ⟨_, rfl, hK _ _ hb (by intro d hd; cases hd; exact rfl) (by intro d hd hm; cases hd; exact absurd hm (by decide))⟩
    refine ⟨?_, ?_⟩
    · intro a w' hB hsz hbase hdeps K hK
      obtain ⟨ev, hev⟩ : ∃ ev, ev = a.eval := ⟨_, rfl⟩
      have hec : ∀ v, ev (.const v) = v := fun v => by rw [hev]; rfl
      have hef : ∀ f, ev (.func f) = .func (.func f) #[] #[] := fun f => by rw [hev]; rfl
      rw [← hev] at hbase hdeps
      have d46 : ev (.tmp 46) = .int .i64 ce := hdeps 46 (of_decide_eq_true (by kernel_rfl))
      have d48 : ev (.tmp 48) = .int .i64 ce := hdeps 48 (of_decide_eq_true (by kernel_rfl))
      rw [if_pos (by kernel_rfl)]
      left
      refine step_val (v := .bool true) (w' := w') ?_ (hK _ _ (Below.refl _ _) (by intro d hd; cases hd; exact rfl) (by intro d hd hm; cases hd; exact absurd hm (by decide)))
      rw [← hev]
      clear hK hdeps hbase hev
      simp only [execOp, hec, hef, d46, d48]
      go_simp
    refine ⟨?_, ?_⟩
    · intro a w' hB hsz hbase hdeps K hK
      obtain ⟨ev, hev⟩ : ∃ ev, ev = a.eval := ⟨_, rfl⟩
      have hec : ∀ v, ev (.const v) = v := fun v => by rw [hev]; rfl
      have hef : ∀ f, ev (.func f) = .func (.func f) #[] #[] := fun f => by rw [hev]; rfl
      rw [← hev] at hbase hdeps
      have d49 : ev (.tmp 49) = .bool true := hdeps 49 (of_decide_eq_true (by kernel_rfl))
      rw [if_pos (by kernel_rfl)]
      left
      refine step_val (v := .bool true) (w' := w') ?_ (hK _ _ (Below.refl _ _) (by intro d hd; cases hd; exact rfl) (by intro d hd hm; cases hd; exact absurd hm (by decide)))
      rw [← hev]
      clear hK hdeps hbase hev
      simp only [execOp, hec, hef, d49]
      go_simp
    refine ⟨?_, ?_⟩
    · intro a w' hB hsz hbase hdeps K hK
      obtain ⟨ev, hev⟩ : ∃ ev, ev = a.eval := ⟨_, rfl⟩
      have hec : ∀ v, ev (.const v) = v := fun v => by rw [hev]; rfl
      have hef : ∀ f, ev (.func f) = .func (.func f) #[] #[] := fun f => by rw [hev]; rfl
      rw [← hev] at hbase hdeps
      have b3 : ev (.tmp 3) = .string tv := (hbase 3 (by kernel_rfl))
      rw [if_pos (wanted_of (j := 5) (b := true) (d := 50) rfl (by kernel_rfl) (by rw [← hev]; exact hdeps 50 (of_decide_eq_true (by kernel_rfl))))]
      left
      refine step_val (v := .string tv) (w' := w') ?_ (hK _ _ (Below.refl _ _) (by intro d hd; cases hd; exact rfl) (by intro d hd hm; cases hd; exact absurd hm (by decide)))
      rw [← hev]
      clear hK hdeps hbase hev
      simp only [execOp, hec, hef, b3]
      go_simp
    refine ⟨?_, ?_⟩
    · intro a w' hB hsz hbase hdeps K hK
      obtain ⟨ev, hev⟩ : ∃ ev, ev = a.eval := ⟨_, rfl⟩
      have hec : ∀ v, ev (.const v) = v := fun v => by rw [hev]; rfl
      have hef : ∀ f, ev (.func f) = .func (.func f) #[] #[] := fun f => by rw [hev]; rfl
      rw [← hev] at hbase hdeps
      have b5 : ev (.tmp 5) = .string tv := (hbase 5 (by kernel_rfl))
      rw [if_pos (wanted_of (j := 5) (b := true) (d := 50) rfl (by kernel_rfl) (by rw [← hev]; exact hdeps 50 (of_decide_eq_true (by kernel_rfl))))]
      left
      refine step_val (v := .string tv) (w' := w') ?_ (hK _ _ (Below.refl _ _) (by intro d hd; cases hd; exact rfl) (by intro d hd hm; cases hd; exact absurd hm (by decide)))
      rw [← hev]
      clear hK hdeps hbase hev
      simp only [execOp, hec, hef, b5]
      go_simp
    refine ⟨?_, ?_⟩
    · intro a w' hB hsz hbase hdeps K hK
      obtain ⟨ev, hev⟩ : ∃ ev, ev = a.eval := ⟨_, rfl⟩
      have hec : ∀ v, ev (.const v) = v := fun v => by rw [hev]; rfl
      have hef : ∀ f, ev (.func f) = .func (.func f) #[] #[] := fun f => by rw [hev]; rfl
      rw [← hev] at hbase hdeps
      have d51 : ev (.tmp 51) = .string tv := hdeps 51 (of_decide_eq_true (by kernel_rfl))
      have d52 : ev (.tmp 52) = .string tv := hdeps 52 (of_decide_eq_true (by kernel_rfl))
      rw [if_pos (wanted_of (j := 5) (b := true) (d := 50) rfl (by kernel_rfl) (by rw [← hev]; exact hdeps 50 (of_decide_eq_true (by kernel_rfl))))]
      left
      refine step_val (v := .bool true) (w' := w') ?_ (hK _ _ (Below.refl _ _) (by intro d hd; cases hd; exact rfl) (by intro d hd hm; cases hd; exact absurd hm (by decide)))
      rw [← hev]
      clear hK hdeps hbase hev
      simp only [execOp, hec, hef, d51, d52]
      go_simp
    refine ⟨?_, ?_⟩
    · intro a w' hB hsz hbase hdeps K hK
      obtain ⟨ev, hev⟩ : ∃ ev, ev = a.eval := ⟨_, rfl⟩
      have hec : ∀ v, ev (.const v) = v := fun v => by rw [hev]; rfl
      have hef : ∀ f, ev (.func f) = .func (.func f) #[] #[] := fun f => by rw [hev]; rfl
      rw [← hev] at hbase hdeps
      have d50 : ev (.tmp 50) = .bool true := hdeps 50 (of_decide_eq_true (by kernel_rfl))
      have d53 : ev (.tmp 53) = .bool true := hdeps 53 (of_decide_eq_true (by kernel_rfl))
      rw [if_pos (by kernel_rfl)]
      left
      refine step_val (v := .bool true) (w' := w') ?_ (hK _ _ (Below.refl _ _) (by intro d hd; cases hd; exact rfl) (by intro d hd hm; cases hd; exact absurd hm (by decide)))
      rw [← hev]
      clear hK hdeps hbase hev
      simp only [execOp, hec, hef, d50, d53]
      go_simp
    refine ⟨?_, ?_⟩
    · intro a w' hB hsz hbase hdeps K hK
      obtain ⟨ev, hev⟩ : ∃ ev, ev = a.eval := ⟨_, rfl⟩
      have hec : ∀ v, ev (.const v) = v := fun v => by rw [hev]; rfl
      have hef : ∀ f, ev (.func f) = .func (.func f) #[] #[] := fun f => by rw [hev]; rfl
      rw [← hev] at hbase hdeps
      have d54 : ev (.tmp 54) = .bool true := hdeps 54 (of_decide_eq_true (by kernel_rfl))
      rw [if_pos (by kernel_rfl)]
      left
      refine step_val (v := .bool true) (w' := w') ?_ (hK _ _ (Below.refl _ _) (by intro d hd; cases hd; exact rfl) (by intro d hd hm; cases hd; exact absurd hm (by decide)))
      rw [← hev]
      clear hK hdeps hbase hev
      simp only [execOp, hec, hef, d54]
      go_simp
    refine ⟨?_, ?_⟩
    · intro a w' hB hsz hbase hdeps K hK
      obtain ⟨ev, hev⟩ : ∃ ev, ev = a.eval := ⟨_, rfl⟩
      have hec : ∀ v, ev (.const v) = v := fun v => by rw [hev]; rfl
      have hef : ∀ f, ev (.func f) = .func (.func f) #[] #[] := fun f => by rw [hev]; rfl
      rw [← hev] at hbase hdeps
      have b4 : ev (.tmp 4) = .int .i64 ce := (hbase 4 (by kernel_rfl))
      rw [if_pos (wanted_of (j := 10) (b := true) (d := 55) rfl (by kernel_rfl) (by rw [← hev]; exact hdeps 55 (of_decide_eq_true (by kernel_rfl))))]
      left
      refine step_val (v := .int .i64 ce) (w' := w') ?_ (hK _ _ (Below.refl _ _) (by intro d hd; cases hd; exact rfl) (by intro d hd hm; cases hd; exact absurd hm (by decide)))
      rw [← hev]
      clear hK hdeps hbase hev
      simp only [execOp, hec, hef, b4]
      go_simp
    refine ⟨?_, ?_⟩
    · intro a w' hB hsz hbase hdeps K hK
      obtain ⟨ev, hev⟩ : ∃ ev, ev = a.eval := ⟨_, rfl⟩
      have hec : ∀ v, ev (.const v) = v := fun v => by rw [hev]; rfl
      have hef : ∀ f, ev (.func f) = .func (.func f) #[] #[] := fun f => by rw [hev]; rfl
      rw [← hev] at hbase hdeps
      have b6 : ev (.tmp 6) = .int .i64 ce := (hbase 6 (by kernel_rfl))
      rw [if_pos (wanted_of (j := 10) (b := true) (d := 55) rfl (by kernel_rfl) (by rw [← hev]; exact hdeps 55 (of_decide_eq_true (by kernel_rfl))))]
      left
      refine step_val (v := .int .i64 ce) (w' := w') ?_ (hK _ _ (Below.refl _ _) (by intro d hd; cases hd; exact rfl) (by intro d hd hm; cases hd; exact absurd hm (by decide)))
      rw [← hev]
      clear hK hdeps hbase hev
      simp only [execOp, hec, hef, b6]
      go_simp
    refine ⟨?_, ?_⟩
    · intro a w' hB hsz hbase hdeps K hK
      obtain ⟨ev, hev⟩ : ∃ ev, ev = a.eval := ⟨_, rfl⟩
      have hec : ∀ v, ev (.const v) = v := fun v => by rw [hev]; rfl
      have hef : ∀ f, ev (.func f) = .func (.func f) #[] #[] := fun f => by rw [hev]; rfl
      rw [← hev] at hbase hdeps
      have d56 : ev (.tmp 56) = .int .i64 ce := hdeps 56 (of_decide_eq_true (by kernel_rfl))
      have d57 : ev (.tmp 57) = .int .i64 ce := hdeps 57 (of_decide_eq_true (by kernel_rfl))
      rw [if_pos (wanted_of (j := 10) (b := true) (d := 55) rfl (by kernel_rfl) (by rw [← hev]; exact hdeps 55 (of_decide_eq_true (by kernel_rfl))))]
      left
      refine step_val (v := .bool true) (w' := w') ?_ (hK _ _ (Below.refl _ _) (by intro d hd; cases hd; exact rfl) (by intro d hd hm; cases hd; exact absurd hm (by decide)))
      rw [← hev]
      clear hK hdeps hbase hev
      simp only [execOp, hec, hef, d56, d57]
      go_simp
    refine ⟨?_, ?_⟩
    · intro a w' hB hsz hbase hdeps K hK
      obtain ⟨ev, hev⟩ : ∃ ev, ev = a.eval := ⟨_, rfl⟩
      have hec : ∀ v, ev (.const v) = v := fun v => by rw [hev]; rfl
      have hef : ∀ f, ev (.func f) = .func (.func f) #[] #[] := fun f => by rw [hev]; rfl
      rw [← hev] at hbase hdeps
      have d55 : ev (.tmp 55) = .bool true := hdeps 55 (of_decide_eq_true (by kernel_rfl))
      have d58 : ev (.tmp 58) = .bool true := hdeps 58 (of_decide_eq_true (by kernel_rfl))
      rw [if_pos (by kernel_rfl)]
      left
      refine step_val (v := .bool true) (w' := w') ?_ (hK _ _ (Below.refl _ _) (by intro d hd; cases hd; exact rfl) (by intro d hd hm; cases hd; exact absurd hm (by decide)))
      rw [← hev]
      clear hK hdeps hbase hev
      simp only [execOp, hec, hef, d55, d58]
      go_simp
    refine ⟨?_, ?_⟩
    · intro a w' hB hsz hbase hdeps K hK
      obtain ⟨ev, hev⟩ : ∃ ev, ev = a.eval := ⟨_, rfl⟩
      have hec : ∀ v, ev (.const v) = v := fun v => by rw [hev]; rfl
      have hef : ∀ f, ev (.func f) = .func (.func f) #[] #[] := fun f => by rw [hev]; rfl
      rw [← hev] at hbase hdeps
      have d59 : ev (.tmp 59) = .bool true := hdeps 59 (of_decide_eq_true (by kernel_rfl))
      rw [if_pos (by kernel_rfl)]
      left
      refine step_val (v := .bool true) (w' := w') ?_ (hK _ _ (Below.refl _ _) (by intro d hd; cases hd; exact rfl) (by intro d hd hm; cases hd; exact absurd hm (by decide)))
      rw [← hev]
      clear hK hdeps hbase hev
      simp only [execOp, hec, hef, d59]
      go_simp
    refine ⟨?_, ?_⟩
    · intro a w' hB hsz hbase hdeps K hK
      obtain ⟨ev, hev⟩ : ∃ ev, ev = a.eval := ⟨_, rfl⟩
      have hec : ∀ v, ev (.const v) = v := fun v => by rw [hev]; rfl
      have hef : ∀ f, ev (.func f) = .func (.func f) #[] #[] := fun f => by rw [hev]; rfl
      rw [← hev] at hbase hdeps
      have b7 : ev (.tmp 7) = .string en := (hbase 7 (by kernel_rfl))
      rw [if_pos (wanted_of (j := 15) (b := true) (d := 60) rfl (by kernel_rfl) (by rw [← hev]; exact hdeps 60 (of_decide_eq_true (by kernel_rfl))))]
      left
      refine step_val (v := .string en) (w' := w') ?_ (hK _ _ (Below.refl _ _) (by intro d hd; cases hd; exact rfl) (by intro d hd hm; cases hd; exact absurd hm (by decide)))
      rw [← hev]
      clear hK hdeps hbase hev
      simp only [execOp, hec, hef, b7]
      go_simp
    refine ⟨?_, ?_⟩
    · intro a w' hB hsz hbase hdeps K hK
      obtain ⟨ev, hev⟩ : ∃ ev, ev = a.eval := ⟨_, rfl⟩
      have hec : ∀ v, ev (.const v) = v := fun v => by rw [hev]; rfl
      have hef : ∀ f, ev (.func f) = .func (.func f) #[] #[] := fun f => by rw [hev]; rfl
      rw [← hev] at hbase hdeps
      have b9 : ev (.tmp 9) = .string en := (hbase 9 (by kernel_rfl))
      rw [if_pos (wanted_of (j := 15) (b := true) (d := 60) rfl (by kernel_rfl) (by rw [← hev]; exact hdeps 60 (of_decide_eq_true (by kernel_rfl))))]
      left
      refine step_val (v := .string en) (w' := w') ?_ (hK _ _ (Below.refl _ _) (by intro d hd; cases hd; exact rfl) (by intro d hd hm; cases hd; exact absurd hm (by decide)))
      rw [← hev]
      clear hK hdeps hbase hev
      simp only [execOp, hec, hef, b9]
      go_simp
    refine ⟨?_, ?_⟩
    · intro a w' hB hsz hbase hdeps K hK
      obtain ⟨ev, hev⟩ : ∃ ev, ev = a.eval := ⟨_, rfl⟩
      have hec : ∀ v, ev (.const v) = v := fun v => by rw [hev]; rfl
      have hef : ∀ f, ev (.func f) = .func (.func f) #[] #[] := fun f => by rw [hev]; rfl
      rw [← hev] at hbase hdeps
      have d61 : ev (.tmp 61) = .string en := hdeps 61 (of_decide_eq_true (by kernel_rfl))
      have d62 : ev (.tmp 62) = .string en := hdeps 62 (of_decide_eq_true (by kernel_rfl))
      rw [if_pos (wanted_of (j := 15) (b := true) (d := 60) rfl (by kernel_rfl) (by rw [← hev]; exact hdeps 60 (of_decide_eq_true (by kernel_rfl))))]
      left
      refine step_val (v := .bool true) (w' := w') ?_ (hK _ _ (Below.refl _ _) (by intro d hd; cases hd; exact rfl) (by intro d hd hm; cases hd; exact absurd hm (by decide)))
      rw [← hev]
      clear hK hdeps hbase hev
      simp only [execOp, hec, hef, d61, d62]
      go_simp
    refine ⟨?_, ?_⟩
    · intro a w' hB hsz hbase hdeps K hK
      obtain ⟨ev, hev⟩ : ∃ ev, ev = a.eval := ⟨_, rfl⟩
      have hec : ∀ v, ev (.const v) = v := fun v => by rw [hev]; rfl
      have hef : ∀ f, ev (.func f) = .func (.func f) #[] #[] := fun f => by rw [hev]; rfl
      rw [← hev] at hbase hdeps
      have d60 : ev (.tmp 60) = .bool true := hdeps 60 (of_decide_eq_true (by kernel_rfl))
      have d63 : ev (.tmp 63) = .bool true := hdeps 63 (of_decide_eq_true (by kernel_rfl))
      rw [if_pos (by kernel_rfl)]
      left
      refine step_val (v := .bool true) (w' := w') ?_ (hK _ _ (Below.refl _ _) (by intro d hd; cases hd; exact rfl) (by intro d hd hm; cases hd; exact absurd hm (by decide)))
      rw [← hev]
      clear hK hdeps hbase hev
      simp only [execOp, hec, hef, d60, d63]
      go_simp
    refine ⟨?_, ?_⟩
    · intro a w' hB hsz hbase hdeps K hK
      obtain ⟨ev, hev⟩ : ∃ ev, ev = a.eval := ⟨_, rfl⟩
      have hec : ∀ v, ev (.const v) = v := fun v => by rw [hev]; rfl
      have hef : ∀ f, ev (.func f) = .func (.func f) #[] #[] := fun f => by rw [hev]; rfl
      rw [← hev] at hbase hdeps
      have d64 : ev (.tmp 64) = .bool true := hdeps 64 (of_decide_eq_true (by kernel_rfl))
      rw [if_pos (by kernel_rfl)]
      left
      refine step_val (v := .bool true) (w' := w') ?_ (hK _ _ (Below.refl _ _) (by intro d hd; cases hd; exact rfl) (by intro d hd hm; cases hd; exact absurd hm (by decide)))
      rw [← hev]
      clear hK hdeps hbase hev
      simp only [execOp, hec, hef, d64]
      go_simp
    refine ⟨?_, ?_⟩
    · intro a w' hB hsz hbase hdeps K hK
      obtain ⟨ev, hev⟩ : ∃ ev, ev = a.eval := ⟨_, rfl⟩
      have hec : ∀ v, ev (.const v) = v := fun v => by rw [hev]; rfl
      have hef : ∀ f, ev (.func f) = .func (.func f) #[] #[] := fun f => by rw [hev]; rfl
      rw [← hev] at hbase hdeps
      have b8 : ev (.tmp 8) = .int .i64 ce := (hbase 8 (by kernel_rfl))
      rw [if_pos (wanted_of (j := 20) (b := true) (d := 65) rfl (by kernel_rfl) (by rw [← hev]; exact hdeps 65 (of_decide_eq_true (by kernel_rfl))))]
      left
      refine step_val (v := .int .i64 ce) (w' := w') ?_ (hK _ _ (Below.refl _ _) (by intro d hd; cases hd; exact rfl) (by intro d hd hm; cases hd; exact absurd hm (by decide)))
      rw [← hev]
      clear hK hdeps hbase hev
      simp only [execOp, hec, hef, b8]
      go_simp
    refine ⟨?_, ?_⟩
    · intro a w' hB hsz hbase hdeps K hK
      obtain ⟨ev, hev⟩ : ∃ ev, ev = a.eval := ⟨_, rfl⟩
      have hec : ∀ v, ev (.const v) = v := fun v => by rw [hev]; rfl
      have hef : ∀ f, ev (.func f) = .func (.func f) #[] #[] := fun f => by rw [hev]; rfl
      rw [← hev] at hbase hdeps
      have b10 : ev (.tmp 10) = .int .i64 ce := (hbase 10 (by kernel_rfl))
      rw [if_pos (wanted_of (j := 20) (b := true) (d := 65) rfl (by kernel_rfl) (by rw [← hev]; exact hdeps 65 (of_decide_eq_true (by kernel_rfl))))]
      left
      refine step_val (v := .int .i64 ce) (w' := w') ?_ (hK _ _ (Below.refl _ _) (by intro d hd; cases hd; exact rfl) (by intro d hd hm; cases hd; exact absurd hm (by decide)))
      rw [← hev]
      clear hK hdeps hbase hev
      simp only [execOp, hec, hef, b10]
      go_simp
    refine ⟨?_, ?_⟩
    · intro a w' hB hsz hbase hdeps K hK
      obtain ⟨ev, hev⟩ : ∃ ev, ev = a.eval := ⟨_, rfl⟩
      have hec : ∀ v, ev (.const v) = v := fun v => by rw [hev]; rfl
      have hef : ∀ f, ev (.func f) = .func (.func f) #[] #[] := fun f => by rw [hev]; rfl
      rw [← hev] at hbase hdeps
      have d66 : ev (.tmp 66) = .int .i64 ce := hdeps 66 (of_decide_eq_true (by kernel_rfl))
      have d67 : ev (.tmp 67) = .int .i64 ce := hdeps 67 (of_decide_eq_true (by kernel_rfl))
      rw [if_pos (wanted_of (j := 20) (b := true) (d := 65) rfl (by kernel_rfl) (by rw [← hev]; exact hdeps 65 (of_decide_eq_true (by kernel_rfl))))]
      left
      refine step_val (v := .bool true) (w' := w') ?_ (hK _ _ (Below.refl _ _) (by intro d hd; cases hd; exact rfl) (by intro d hd hm; cases hd; exact absurd hm (by decide)))
      rw [← hev]
      clear hK hdeps hbase hev
      simp only [execOp, hec, hef, d66, d67]
      go_simp
    refine ⟨?_, ?_⟩
    · intro a w' hB hsz hbase hdeps K hK
      obtain ⟨ev, hev⟩ : ∃ ev, ev = a.eval := ⟨_, rfl⟩
      have hec : ∀ v, ev (.const v) = v := fun v => by rw [hev]; rfl
      have hef : ∀ f, ev (.func f) = .func (.func f) #[] #[] := fun f => by rw [hev]; rfl
      rw [← hev] at hbase hdeps
      have d65 : ev (.tmp 65) = .bool true := hdeps 65 (of_decide_eq_true (by kernel_rfl))
      have d68 : ev (.tmp 68) = .bool true := hdeps 68 (of_decide_eq_true (by kernel_rfl))
      rw [if_pos (by kernel_rfl)]
      left
      refine step_val (v := .bool true) (w' := w') ?_ (hK _ _ (Below.refl _ _) (by intro d hd; cases hd; exact rfl) (by intro d hd hm; cases hd; exact absurd hm (by decide)))
      rw [← hev]
      clear hK hdeps hbase hev
      simp only [execOp, hec, hef, d65, d68]
      go_simp
    refine ⟨?_, ?_⟩
    · intro a w' hB hsz hbase hdeps K hK
      obtain ⟨ev, hev⟩ : ∃ ev, ev = a.eval := ⟨_, rfl⟩
      have hec : ∀ v, ev (.const v) = v := fun v => by rw [hev]; rfl
      have hef : ∀ f, ev (.func f) = .func (.func f) #[] #[] := fun f => by rw [hev]; rfl
      rw [← hev] at hbase hdeps
      have d69 : ev (.tmp 69) = .bool true := hdeps 69 (of_decide_eq_true (by kernel_rfl))
      rw [if_pos (by kernel_rfl)]
      left
      refine step_val (v := .bool true) (w' := w') ?_ (hK _ _ (Below.refl _ _) (by intro d hd; cases hd; exact rfl) (by intro d hd hm; cases hd; exact absurd hm (by decide)))
      rw [← hev]
      clear hK hdeps hbase hev
      simp only [execOp, hec, hef, d69]
      go_simp
    refine ⟨?_, ?_⟩
    · intro a w' hB hsz hbase hdeps K hK
      obtain ⟨ev, hev⟩ : ∃ ev, ev = a.eval := ⟨_, rfl⟩
      have hec : ∀ v, ev (.const v) = v := fun v => by rw [hev]; rfl
      have hef : ∀ f, ev (.func f) = .func (.func f) #[] #[] := fun f => by rw [hev]; rfl
      rw [← hev] at hbase hdeps
      have b11 : ev (.tmp 11) = .bool sb := (hbase 11 (by kernel_rfl))
      rw [if_pos (wanted_of (j := 25) (b := true) (d := 70) rfl (by kernel_rfl) (by rw [← hev]; exact hdeps 70 (of_decide_eq_true (by kernel_rfl))))]
      left
      refine step_val (v := .bool sb) (w' := w') ?_ (hK _ _ (Below.refl _ _) (by intro d hd; cases hd; exact rfl) (by intro d hd hm; cases hd; exact absurd hm (by decide)))
      rw [← hev]
      clear hK hdeps hbase hev
      simp only [execOp, hec, hef, b11]
      go_simp
    refine ⟨?_, ?_⟩
    · intro a w' hB hsz hbase hdeps K hK
      obtain ⟨ev, hev⟩ : ∃ ev, ev = a.eval := ⟨_, rfl⟩
      have hec : ∀ v, ev (.const v) = v := fun v => by rw [hev]; rfl
      have hef : ∀ f, ev (.func f) = .func (.func f) #[] #[] := fun f => by rw [hev]; rfl
      rw [← hev] at hbase hdeps
      have b13 : ev (.tmp 13) = .bool sb := (hbase 13 (by kernel_rfl))
      rw [if_pos (wanted_of (j := 25) (b := true) (d := 70) rfl (by kernel_rfl) (by rw [← hev]; exact hdeps 70 (of_decide_eq_true (by kernel_rfl))))]
      left
      refine step_val (v := .bool sb) (w' := w') ?_ (hK _ _ (Below.refl _ _) (by intro d hd; cases hd; exact rfl) (by intro d hd hm; cases hd; exact absurd hm (by decide)))
      rw [← hev]
      clear hK hdeps hbase hev
      simp only [execOp, hec, hef, b13]
      go_simp
    refine ⟨?_, ?_⟩
    · intro a w' hB hsz hbase hdeps K hK
      obtain ⟨ev, hev⟩ : ∃ ev, ev = a.eval := ⟨_, rfl⟩
      have hec : ∀ v, ev (.const v) = v := fun v => by rw [hev]; rfl
      have hef : ∀ f, ev (.func f) = .func (.func f) #[] #[] := fun f => by rw [hev]; rfl
      rw [← hev] at hbase hdeps
      have d71 : ev (.tmp 71) = .bool sb := hdeps 71 (of_decide_eq_true (by kernel_rfl))
      have d72 : ev (.tmp 72) = .bool sb := hdeps 72 (of_decide_eq_true (by kernel_rfl))
      rw [if_pos (wanted_of (j := 25) (b := true) (d := 70) rfl (by kernel_rfl) (by rw [← hev]; exact hdeps 70 (of_decide_eq_true (by kernel_rfl))))]
      left
      refine step_val (v := .bool true) (w' := w') ?_ (hK _ _ (Below.refl _ _) (by intro d hd; cases hd; exact rfl) (by intro d hd hm; cases hd; exact absurd hm (by decide)))
      rw [← hev]
      clear hK hdeps hbase hev
      simp only [execOp, hec, hef, d71, d72]
      go_simp
    refine ⟨?_, ?_⟩
    · intro a w' hB hsz hbase hdeps K hK
      obtain ⟨ev, hev⟩ : ∃ ev, ev = a.eval := ⟨_, rfl⟩
      have hec : ∀ v, ev (.const v) = v := fun v => by rw [hev]; rfl
      have hef : ∀ f, ev (.func f) = .func (.func f) #[] #[] := fun f => by rw [hev]; rfl
      rw [← hev] at hbase hdeps
      have d70 : ev (.tmp 70) = .bool true := hdeps 70 (of_decide_eq_true (by kernel_rfl))
      have d73 : ev (.tmp 73) = .bool true := hdeps 73 (of_decide_eq_true (by kernel_rfl))
      rw [if_pos (by kernel_rfl)]
      left
      refine step_val (v := .bool true) (w' := w') ?_ (hK _ _ (Below.refl _ _) (by intro d hd; cases hd; exact rfl) (by intro d hd hm; cases hd; exact absurd hm (by decide)))
      rw [← hev]
      clear hK hdeps hbase hev
      simp only [execOp, hec, hef, d70, d73]
      go_simp
    refine ⟨?_, ?_⟩
    · intro a w' hB hsz hbase hdeps K hK
      obtain ⟨ev, hev⟩ : ∃ ev, ev = a.eval := ⟨_, rfl⟩
      have hec : ∀ v, ev (.const v) = v := fun v => by rw [hev]; rfl
      have hef : ∀ f, ev (.func f) = .func (.func f) #[] #[] := fun f => by rw [hev]; rfl
      rw [← hev] at hbase hdeps
      have d74 : ev (.tmp 74) = .bool true := hdeps 74 (of_decide_eq_true (by kernel_rfl))
      rw [if_pos (by kernel_rfl)]
      left
      refine step_val (v := .bool true) (w' := w') ?_ (hK _ _ (Below.refl _ _) (by intro d hd; cases hd; exact rfl) (by intro d hd hm; cases hd; exact absurd hm (by decide)))
      rw [← hev]
      clear hK hdeps hbase hev
      simp only [execOp, hec, hef, d74]
      go_simp
    refine ⟨?_, ?_⟩
    · intro a w' hB hsz hbase hdeps K hK
      obtain ⟨ev, hev⟩ : ∃ ev, ev = a.eval := ⟨_, rfl⟩
      have hec : ∀ v, ev (.const v) = v := fun v => by rw [hev]; rfl
      have hef : ∀ f, ev (.func f) = .func (.func f) #[] #[] := fun f => by rw [hev]; rfl
      rw [← hev] at hbase hdeps
      have b12 : ev (.tmp 12) = .int .i64 ce := (hbase 12 (by kernel_rfl))
      rw [if_pos (wanted_of (j := 30) (b := true) (d := 75) rfl (by kernel_rfl) (by rw [← hev]; exact hdeps 75 (of_decide_eq_true (by kernel_rfl))))]
      left
      refine step_val (v := .int .i64 ce) (w' := w') ?_ (hK _ _ (Below.refl _ _) (by intro d hd; cases hd; exact rfl) (by intro d hd hm; cases hd; exact absurd hm (by decide)))
      rw [← hev]
      clear hK hdeps hbase hev
      simp only [execOp, hec, hef, b12]
      go_simp
    refine ⟨?_, ?_⟩
    · intro a w' hB hsz hbase hdeps K hK
      obtain ⟨ev, hev⟩ : ∃ ev, ev = a.eval := ⟨_, rfl⟩
      have hec : ∀ v, ev (.const v) = v := fun v => by rw [hev]; rfl
      have hef : ∀ f, ev (.func f) = .func (.func f) #[] #[] := fun f => by rw [hev]; rfl
      rw [← hev] at hbase hdeps
      have b14 : ev (.tmp 14) = .int .i64 ce := (hbase 14 (by kernel_rfl))
      rw [if_pos (wanted_of (j := 30) (b := true) (d := 75) rfl (by kernel_rfl) (by rw [← hev]; exact hdeps 75 (of_decide_eq_true (by kernel_rfl))))]
      left
      refine step_val (v := .int .i64 ce) (w' := w') ?_ (hK _ _ (Below.refl _ _) (by intro d hd; cases hd; exact rfl) (by intro d hd hm; cases hd; exact absurd hm (by decide)))
      rw [← hev]
      clear hK hdeps hbase hev
      simp only [execOp, hec, hef, b14]
      go_simp
    refine ⟨?_, ?_⟩
    · intro a w' hB hsz hbase hdeps K hK
      obtain ⟨ev, hev⟩ : ∃ ev, ev = a.eval := ⟨_, rfl⟩
      have hec : ∀ v, ev (.const v) = v := fun v => by rw [hev]; rfl
      have hef : ∀ f, ev (.func f) = .func (.func f) #[] #[] := fun f => by rw [hev]; rfl
      rw [← hev] at hbase hdeps
      have d76 : ev (.tmp 76) = .int .i64 ce := hdeps 76 (of_decide_eq_true (by kernel_rfl))
      have d77 : ev (.tmp 77) = .int .i64 ce := hdeps 77 (of_decide_eq_true (by kernel_rfl))
      rw [if_pos (wanted_of (j := 30) (b := true) (d := 75) rfl (by kernel_rfl) (by rw [← hev]; exact hdeps 75 (of_decide_eq_true (by kernel_rfl))))]
      left
      refine step_val (v := .bool true) (w' := w') ?_ (hK _ _ (Below.refl _ _) (by intro d hd; cases hd; exact rfl) (by intro d hd hm; cases hd; exact absurd hm (by decide)))
      rw [← hev]
      clear hK hdeps hbase hev
      simp only [execOp, hec, hef, d76, d77]
      go_simp
    refine ⟨?_, ?_⟩
    · intro a w' hB hsz hbase hdeps K hK
      obtain ⟨ev, hev⟩ : ∃ ev, ev = a.eval := ⟨_, rfl⟩
      have hec : ∀ v, ev (.const v) = v := fun v => by rw [hev]; rfl
      have hef : ∀ f, ev (.func f) = .func (.func f) #[] #[] := fun f => by rw [hev]; rfl
      rw [← hev] at hbase hdeps
      have d75 : ev (.tmp 75) = .bool true := hdeps 75 (of_decide_eq_true (by kernel_rfl))
      have d78 : ev (.tmp 78) = .bool true := hdeps 78 (of_decide_eq_true (by kernel_rfl))
      rw [if_pos (by kernel_rfl)]
      left
      refine step_val (v := .bool true) (w' := w') ?_ (hK _ _ (Below.refl _ _) (by intro d hd; cases hd; exact rfl) (by intro d hd hm; cases hd; exact absurd hm (by decide)))
      rw [← hev]
      clear hK hdeps hbase hev
      simp only [execOp, hec, hef, d75, d78]
      go_simp
    refine ⟨?_, ?_⟩
    · intro a w' hB hsz hbase hdeps K hK
      obtain ⟨ev, hev⟩ : ∃ ev, ev = a.eval := ⟨_, rfl⟩
      have hec : ∀ v, ev (.const v) = v := fun v => by rw [hev]; rfl
      have hef : ∀ f, ev (.func f) = .func (.func f) #[] #[] := fun f => by rw [hev]; rfl
      rw [← hev] at hbase hdeps
      have d79 : ev (.tmp 79) = .bool true := hdeps 79 (of_decide_eq_true (by kernel_rfl))
      rw [if_pos (by kernel_rfl)]
      left
      refine step_val (v := .bool true) (w' := w') ?_ (hK _ _ (Below.refl _ _) (by intro d hd; cases hd; exact rfl) (by intro d hd hm; cases hd; exact absurd hm (by decide)))
      rw [← hev]
      clear hK hdeps hbase hev
      simp only [execOp, hec, hef, d79]
      go_simp
    refine ⟨?_, ?_⟩
    · intro a w' hB hsz hbase hdeps K hK
      obtain ⟨ev, hev⟩ : ∃ ev, ev = a.eval := ⟨_, rfl⟩
      have hec : ∀ v, ev (.const v) = v := fun v => by rw [hev]; rfl
      have hef : ∀ f, ev (.func f) = .func (.func f) #[] #[] := fun f => by rw [hev]; rfl
      rw [← hev] at hbase hdeps
      rw [if_pos (wanted_of (j := 35) (b := true) (d := 80) rfl (by kernel_rfl) (by rw [← hev]; exact hdeps 80 (of_decide_eq_true (by kernel_rfl))))]
      left
      refine step_enter (w' := w') (f := 21) (args := #[]) ?_ ?_
      · rw [← hev]
        clear hK hdeps hbase hev
        simp only [execOp, hec, hef]
        go_simp
      · refine (fcodes w' (HT.out.1.below (gr_call HB6.out.2 hB) (Nat.le_refl _))).mono ?_
        rintro e W ⟨A, c, rfl, hc, hb⟩
        exact ⟨_, rfl, hK _ _ hb (by intro d hd; cases hd; exact ⟨A, c, rfl, hc⟩) (by intro d hd hm; cases hd; exact absurd hm (by decide))⟩
    refine ⟨?_, ?_⟩
    · intro a w' hB hsz hbase hdeps K hK
      obtain ⟨ev, hev⟩ : ∃ ev, ev = a.eval := ⟨_, rfl⟩
      have hec : ∀ v, ev (.const v) = v := fun v => by rw [hev]; rfl
      have hef : ∀ f, ev (.func f) = .func (.func f) #[] #[] := fun f => by rw [hev]; rfl
      rw [← hev] at hbase hdeps
      rw [if_pos (wanted_of (j := 35) (b := true) (d := 80) rfl (by kernel_rfl) (by rw [← hev]; exact hdeps 80 (of_decide_eq_true (by kernel_rfl))))]
      left
      refine step_enter (w' := w') (f := 22) (args := #[]) ?_ ?_
      · rw [← hev]
        clear hK hdeps hbase hev
        simp only [execOp, hec, hef]
        go_simp
      · refine (rcodesC w').mono ?_
        rintro e W ⟨A, c, rfl, hc, hb⟩
        exact ⟨_, rfl, hK _ _ hb (by intro d hd; cases hd; exact ⟨A, c, rfl, hc⟩) (by intro d hd hm; cases hd; exact absurd hm (by decide))⟩
    refine ⟨?_, ?_⟩
    · intro a w' hB hsz hbase hdeps K hK
      obtain ⟨ev, hev⟩ : ∃ ev, ev = a.eval := ⟨_, rfl⟩
      have hec : ∀ v, ev (.const v) = v := fun v => by rw [hev]; rfl
      have hef : ∀ f, ev (.func f) = .func (.func f) #[] #[] := fun f => by rw [hev]; rfl
      rw [← hev] at hbase hdeps
      have d81 := hdeps 81 (of_decide_eq_true (by kernel_rfl))
      obtain ⟨Ad81, cd81, ed81, hd81⟩ := d81
      have d82 := hdeps 82 (of_decide_eq_true (by kernel_rfl))
      obtain ⟨Ad82, cd82, ed82, hd82⟩ := d82
      rw [if_pos (wanted_of (j := 35) (b := true) (d := 80) rfl (by kernel_rfl) (by rw [← hev]; exact hdeps 80 (of_decide_eq_true (by kernel_rfl))))]
      left
      refine step_enter (w' := w') (f := 20) (args := #[.slice Ad81 5 cd81, .slice Ad82 5 cd82]) ?_ ?_
      · rw [← hev]
        clear hK hdeps hbase hev
        simp only [execOp, hec, hef, ed81, ed82]
        go_simp
      · refine (sameCodes Ad81 Ad82 cd81 cd82 w' hd81 hd82).mono ?_
        rintro e W ⟨rfl, hb⟩
        exact ⟨_, rfl, hK _ _ hb (by intro d hd; cases hd; exact rfl) (by intro d hd hm; cases hd; exact absurd hm (by decide))⟩
    refine ⟨?_, ?_⟩
    · intro a w' hB hsz hbase hdeps K hK
      obtain ⟨ev, hev⟩ : ∃ ev, ev = a.eval := ⟨_, rfl⟩
      have hec : ∀ v, ev (.const v) = v := fun v => by rw [hev]; rfl
      have hef : ∀ f, ev (.func f) = .func (.func f) #[] #[] := fun f => by rw [hev]; rfl
      rw [← hev] at hbase hdeps
      have d80 : ev (.tmp 80) = .bool true := hdeps 80 (of_decide_eq_true (by kernel_rfl))
      have d83 : ev (.tmp 83) = .bool true := hdeps 83 (of_decide_eq_true (by kernel_rfl))
      rw [if_pos (by kernel_rfl)]
      left
      refine step_val (v := .bool true) (w' := w') ?_ (hK _ _ (Below.refl _ _) (by intro d hd; cases hd; exact rfl) (by intro d hd hm; cases hd; exact absurd hm (by decide)))
      rw [← hev]
      clear hK hdeps hbase hev
      simp only [execOp, hec, hef, d80, d83]
      go_simp
    refine ⟨?_, ?_⟩
    · intro a w' hB hsz hbase hdeps K hK
      obtain ⟨ev, hev⟩ : ∃ ev, ev = a.eval := ⟨_, rfl⟩
      have hec : ∀ v, ev (.const v) = v := fun v => by rw [hev]; rfl
      have hef : ∀ f, ev (.func f) = .func (.func f) #[] #[] := fun f => by rw [hev]; rfl
      rw [← hev] at hbase hdeps
      have d84 : ev (.tmp 84) = .bool true := hdeps 84 (of_decide_eq_true (by kernel_rfl))
      rw [if_pos (by kernel_rfl)]
      left
      refine step_val (v := .bool true) (w' := w') ?_ (hK _ _ (Below.refl _ _) (by intro d hd; cases hd; exact rfl) (by intro d hd hm; cases hd; exact absurd hm (by decide)))
      rw [← hev]
      clear hK hdeps hbase hev
      simp only [execOp, hec, hef, d84]
      go_simp
    refine ⟨?_, ?_⟩
    · intro a w' hB hsz hbase hdeps K hK
      obtain ⟨ev, hev⟩ : ∃ ev, ev = a.eval := ⟨_, rfl⟩
      have hec : ∀ v, ev (.const v) = v := fun v => by rw [hev]; rfl
      have hef : ∀ f, ev (.func f) = .func (.func f) #[] #[] := fun f => by rw [hev]; rfl
      rw [← hev] at hbase hdeps
      rw [if_pos (wanted_of (j := 40) (b := true) (d := 85) rfl (by kernel_rfl) (by rw [← hev]; exact hdeps 85 (of_decide_eq_true (by kernel_rfl))))]
      left
      refine step_enter (w' := w') (f := 9) (args := #[]) ?_ ?_
      · rw [← hev]
        clear hK hdeps hbase hev
        simp only [execOp, hec, hef]
        go_simp
      · refine (awake w' (HT.out.1.below (gr_call HB6.out.2 hB) (Nat.le_refl _)) (HT.out.2.1.below (gr_call HB6.out.2 hB) (Nat.le_refl _))).mono ?_
        rintro e W ⟨rfl, hb⟩
        exact ⟨_, rfl, hK _ _ hb (by intro d hd; cases hd; exact rfl) (by intro d hd hm; cases hd; exact absurd hm (by decide))⟩
    refine ⟨?_, ?_⟩
    · intro a w' hB hsz hbase hdeps K hK
      obtain ⟨ev, hev⟩ : ∃ ev, ev = a.eval := ⟨_, rfl⟩
      have hec : ∀ v, ev (.const v) = v := fun v => by rw [hev]; rfl
      have hef : ∀ f, ev (.func f) = .func (.func f) #[] #[] := fun f => by rw [hev]; rfl
      rw [← hev] at hbase hdeps
      have d85 : ev (.tmp 85) = .bool true := hdeps 85 (of_decide_eq_true (by kernel_rfl))
      have d86 : ev (.tmp 86) = .bool true := hdeps 86 (of_decide_eq_true (by kernel_rfl))
      rw [if_pos (by kernel_rfl)]
      left
      refine step_val (v := .bool true) (w' := w') ?_ (hK _ _ (Below.refl _ _) (by intro d hd; cases hd; exact rfl) (by intro d hd hm; cases hd; exact absurd hm (by decide)))
      rw [← hev]
      clear hK hdeps hbase hev
      simp only [execOp, hec, hef, d85, d86]
      go_simp
    refine ⟨?_, ?_⟩
    · intro a w' hB hsz hbase hdeps K hK
      obtain ⟨ev, hev⟩ : ∃ ev, ev = a.eval := ⟨_, rfl⟩
      have hec : ∀ v, ev (.const v) = v := fun v => by rw [hev]; rfl
      have hef : ∀ f, ev (.func f) = .func (.func f) #[] #[] := fun f => by rw [hev]; rfl
      rw [← hev] at hbase hdeps
      have d87 : ev (.tmp 87) = .bool true := hdeps 87 (of_decide_eq_true (by kernel_rfl))
      rw [if_pos (by kernel_rfl)]
      left
      refine step_val (v := .bool true) (w' := w') ?_ (hK _ _ (Below.refl _ _) (by intro d hd; cases hd; exact rfl) (by intro d hd hm; cases hd; exact absurd hm (by decide)))
      rw [← hev]
      clear hK hdeps hbase hev
      simp only [execOp, hec, hef, d87]
      go_simp
    exact trivial

  case fin =>
    intro a x hB hsz hdef hbase hS _
    have v45 : a.eval (.tmp 45) = Value.agg #[Value.bool f.last, .bool f.next, .bool f.chain, .bool f.fin, .bool f.forb, .bool f.gone, .bool f.app, .bool f.disc, .int .i64 f.skip, .int .i64 f.red] := hS _ (List.mem_of_getElem? (i := 0) rfl) 45 rfl
    have v46 : a.eval (.tmp 46) = .int .i64 ce := hS _ (List.mem_of_getElem? (i := 1) rfl) 46 rfl
    have v47 : a.eval (.tmp 47) = Value.agg #[Value.bool f.last, .bool f.next, .bool f.chain, .bool f.fin, .bool f.forb, .bool f.gone, .bool f.app, .bool f.disc, .int .i64 f.skip, .int .i64 f.red] := hS _ (List.mem_of_getElem? (i := 2) rfl) 47 rfl
    have v48 : a.eval (.tmp 48) = .int .i64 ce := hS _ (List.mem_of_getElem? (i := 3) rfl) 48 rfl
    have v49 : a.eval (.tmp 49) = .bool true := hS _ (List.mem_of_getElem? (i := 4) rfl) 49 rfl
    have v50 : a.eval (.tmp 50) = .bool true := hS _ (List.mem_of_getElem? (i := 5) rfl) 50 rfl
    have v51 : a.eval (.tmp 51) = .string tv := hS _ (List.mem_of_getElem? (i := 6) rfl) 51 rfl
    have v52 : a.eval (.tmp 52) = .string tv := hS _ (List.mem_of_getElem? (i := 7) rfl) 52 rfl
    have v53 : a.eval (.tmp 53) = .bool true := hS _ (List.mem_of_getElem? (i := 8) rfl) 53 rfl
    have v54 : a.eval (.tmp 54) = .bool true := hS _ (List.mem_of_getElem? (i := 9) rfl) 54 rfl
    have v55 : a.eval (.tmp 55) = .bool true := hS _ (List.mem_of_getElem? (i := 10) rfl) 55 rfl
    have v56 : a.eval (.tmp 56) = .int .i64 ce := hS _ (List.mem_of_getElem? (i := 11) rfl) 56 rfl
    have v57 : a.eval (.tmp 57) = .int .i64 ce := hS _ (List.mem_of_getElem? (i := 12) rfl) 57 rfl
    have v58 : a.eval (.tmp 58) = .bool true := hS _ (List.mem_of_getElem? (i := 13) rfl) 58 rfl
    have v59 : a.eval (.tmp 59) = .bool true := hS _ (List.mem_of_getElem? (i := 14) rfl) 59 rfl
    have v60 : a.eval (.tmp 60) = .bool true := hS _ (List.mem_of_getElem? (i := 15) rfl) 60 rfl
    have v61 : a.eval (.tmp 61) = .string en := hS _ (List.mem_of_getElem? (i := 16) rfl) 61 rfl
    have v62 : a.eval (.tmp 62) = .string en := hS _ (List.mem_of_getElem? (i := 17) rfl) 62 rfl
    have v63 : a.eval (.tmp 63) = .bool true := hS _ (List.mem_of_getElem? (i := 18) rfl) 63 rfl
    have v64 : a.eval (.tmp 64) = .bool true := hS _ (List.mem_of_getElem? (i := 19) rfl) 64 rfl
    have v65 : a.eval (.tmp 65) = .bool true := hS _ (List.mem_of_getElem? (i := 20) rfl) 65 rfl
    have v66 : a.eval (.tmp 66) = .int .i64 ce := hS _ (List.mem_of_getElem? (i := 21) rfl) 66 rfl
    have v67 : a.eval (.tmp 67) = .int .i64 ce := hS _ (List.mem_of_getElem? (i := 22) rfl) 67 rfl
    have v68 : a.eval (.tmp 68) = .bool true := hS _ (List.mem_of_getElem? (i := 23) rfl) 68 rfl
    have v69 : a.eval (.tmp 69) = .bool true := hS _ (List.mem_of_getElem? (i := 24) rfl) 69 rfl
    have v70 : a.eval (.tmp 70) = .bool true := hS _ (List.mem_of_getElem? (i := 25) rfl) 70 rfl
    have v71 : a.eval (.tmp 71) = .bool sb := hS _ (List.mem_of_getElem? (i := 26) rfl) 71 rfl
    have v72 : a.eval (.tmp 72) = .bool sb := hS _ (List.mem_of_getElem? (i := 27) rfl) 72 rfl
    have v73 : a.eval (.tmp 73) = .bool true := hS _ (List.mem_of_getElem? (i := 28) rfl) 73 rfl
    have v74 : a.eval (.tmp 74) = .bool true := hS _ (List.mem_of_getElem? (i := 29) rfl) 74 rfl
    have v75 : a.eval (.tmp 75) = .bool true := hS _ (List.mem_of_getElem? (i := 30) rfl) 75 rfl
    have v76 : a.eval (.tmp 76) = .int .i64 ce := hS _ (List.mem_of_getElem? (i := 31) rfl) 76 rfl
    have v77 : a.eval (.tmp 77) = .int .i64 ce := hS _ (List.mem_of_getElem? (i := 32) rfl) 77 rfl
    have v78 : a.eval (.tmp 78) = .bool true := hS _ (List.mem_of_getElem? (i := 33) rfl) 78 rfl
    have v79 : a.eval (.tmp 79) = .bool true := hS _ (List.mem_of_getElem? (i := 34) rfl) 79 rfl
    have v80 : a.eval (.tmp 80) = .bool true := hS _ (List.mem_of_getElem? (i := 35) rfl) 80 rfl
    obtain ⟨A81, c81, v81, hc81⟩ := hS _ (List.mem_of_getElem? (i := 36) rfl) 81 rfl
    obtain ⟨A82, c82, v82, hc82⟩ := hS _ (List.mem_of_getElem? (i := 37) rfl) 82 rfl
    have v83 : a.eval (.tmp 83) = .bool true := hS _ (List.mem_of_getElem? (i := 38) rfl) 83 rfl
    have v84 : a.eval (.tmp 84) = .bool true := hS _ (List.mem_of_getElem? (i := 39) rfl) 84 rfl
    have v85 : a.eval (.tmp 85) = .bool true := hS _ (List.mem_of_getElem? (i := 40) rfl) 85 rfl
    have v86 : a.eval (.tmp 86) = .bool true := hS _ (List.mem_of_getElem? (i := 41) rfl) 86 rfl
    have v87 : a.eval (.tmp 87) = .bool true := hS _ (List.mem_of_getElem? (i := 42) rfl) 87 rfl
    have v2 : a.eval (.tmp 2) = .bool true := hS _ (List.mem_of_getElem? (i := 43) rfl) 2 rfl
    have ha := act_over [(45, Value.agg #[Value.bool f.last, .bool f.next, .bool f.chain, .bool f.fin, .bool f.forb, .bool f.gone, .bool f.app, .bool f.disc, .int .i64 f.skip, .int .i64 f.red]), (46, .int .i64 ce), (47, Value.agg #[Value.bool f.last, .bool f.next, .bool f.chain, .bool f.fin, .bool f.forb, .bool f.gone, .bool f.app, .bool f.disc, .int .i64 f.skip, .int .i64 f.red]), (48, .int .i64 ce), (49, .bool true), (50, .bool true), (51, .string tv), (52, .string tv), (53, .bool true), (54, .bool true), (55, .bool true), (56, .int .i64 ce), (57, .int .i64 ce), (58, .bool true), (59, .bool true), (60, .bool true), (61, .string en), (62, .string en), (63, .bool true), (64, .bool true), (65, .bool true), (66, .int .i64 ce), (67, .int .i64 ce), (68, .bool true), (69, .bool true), (70, .bool true), (71, .bool sb), (72, .bool sb), (73, .bool true), (74, .bool true), (75, .bool true), (76, .int .i64 ce), (77, .int .i64 ce), (78, .bool true), (79, .bool true), (80, .bool true), (81, .slice A81 5 c81), (82, .slice A82 5 c82), (83, .bool true), (84, .bool true), (85, .bool true), (86, .bool true), (87, .bool true), (2, .bool true)] hsz hdef hbase (by kernel_rfl) ⟨v45, v46, v47, v48, v49, v50, v51, v52, v53, v54, v55, v56, v57, v58, v59, v60, v61, v62, v63, v64, v65, v66, v67, v68, v69, v70, v71, v72, v73, v74, v75, v76, v77, v78, v79, v80, v81, v82, v83, v84, v85, v86, v87, v2, trivial⟩
    clear hsz hdef hbase hS v45 v46 v47 v48 v49 v50 v51 v52 v53 v54 v55 v56 v57 v58 v59 v60 v61 v62 v63 v64 v65 v66 v67 v68 v69 v70 v71 v72 v73 v74 v75 v76 v77 v78 v79 v80 v81 v82 v83 v84 v85 v86 v87 v2
    subst ha
    simp only [List.drop, putAll]
    have zX := Lib.hid (gr_call HB6.out.2 hB)
    clear hB
    refine wpList_nil ?_
    simp (config := {decide := false}) only [Act.put, List.setIfInBounds_toArray, List.set_cons_zero, List.set_cons_succ]
    go_wp2_with (fail)
    go_ret
    exact ⟨rfl, zX.out⟩
end Go.Proofs.YtlipjagdlpkjpaaDoor
