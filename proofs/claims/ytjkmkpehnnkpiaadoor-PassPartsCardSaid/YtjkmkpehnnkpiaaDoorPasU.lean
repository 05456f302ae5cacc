/-
  The reference's Run, walked: the plain run; no condition.
-/
import Derived.Test.YtjkmkpehnnkpiaaDoorPasT
import Derived.Test.YtjkmkpehnnkpiaaDoorInw
import Derived.Deep.AppendSrc
import Derived.Deep.Upon
import Derived.Lib.AppendZeros
namespace Go.Proofs.YtjkmkpehnnkpiaaDoor
open Go.RowKit Go.Joins Go.Shelf
set_option linter.unusedVariables false
set_option linter.unusedSimpArgs false

def RunRel (F : Nat → Flg) (n : Nat) (ans : Nat → Nat → Option Bool) (a0 : Nat) (en : Bool) (m : Nat) (B : Option Addr) (d O : Nat) (w X : World) (l : Nat) (v i : Value) (W : World) : Prop :=
  ∃ k : Nat, k ≤ m ∧ l = m - k ∧ i = .int .i64 (k : Int) ∧ Good F n ans a0 k ∧ Blk W O 30 #[.slice B n d, .int .i64 (atN F n ans a0 k : Int), .bool (enN F n ans a0 en k)] ∧ W.ownsRow X.heap.size 3 1 v k (intL (triedN F n ans a0 k)) ∧ X.grownBy W (some O)

set_option maxRecDepth 100000 in
set_option maxHeartbeats 8000000 in
theorem rrun_ok (F : Nat → Flg) (hF : SkipOk F) (A AA : Option Addr) (n c m cc a0 : Nat) (en : Bool) (G : Nat → Bool) (hn : n ≤ 1000000) (hm : m ≤ 10000) (w : World) (hA : ArgOk A n c) (hc : Cells w A 10 n (flgAt F)) (hg : Cells w AA 1 m (boolAt G)) (he : passE F n (a0 : Int) en = 0) :
    Calls Tryd.prog 26 #[.agg #[.slice A n c, .int .i64 (a0 : Int), .bool en], .slice AA m cc] w fun e W' => ∃ B d i v, e = .returned (.tuple #[.agg #[.slice B n d, .int .i64 (atN F n (ansL G m) a0 i : Int), .bool (enN F n (ansL G m) a0 en i)], v, .int .i64 0]) ∧
      i ≤ m ∧ Halt F n (ansL G m) a0 i ∧ Good F n (ansL G m) a0 i ∧ Cells W' B 10 n (flgAt F) ∧ ArgOk B n d ∧ W'.ownsRow w.heap.size 3 1 v i (intL (triedN F n (ansL G m) a0 i)) ∧ Below w.heap.size w W' := by
  obtain ⟨hz, hp0, hp1, hp2⟩ := passE_zero he
  have ha0 : a0 ≤ n := by omega
  have hchk : ∀ k, k < n → chkF (F k) = 0 := fun k hk => (flags_zero hz hk).1
  have H := Lib.hid (And.intro hc (And.intro hA (And.intro hF (And.intro hg hchk))))
  have z0 := gr_alloc (gr_alloc (Below.refl w.heap.size w) (.cells #[.slice A n c, .int .i64 (a0 : Int), .bool en] 30)) (.cells #[.slice none 0 0, .int .i64 0, .bool false] 30)
  have f0 := (Blk.new w 30 #[.slice A n c, .int .i64 (a0 : Int), .bool en]).alloc (.cells #[.slice none 0 0, .int .i64 0, .bool false] 30)
  have f2 : Blk ((w.alloc (.cells #[.slice A n c, .int .i64 (a0 : Int), .bool en] 30)).alloc (.cells #[.slice none 0 0, .int .i64 0, .bool false] 30)) (w.heap.size + 1) 30 #[.slice none 0 0, .int .i64 0, .bool false] := blk_at (by simp)
  have H0 := Lib.hid (And.intro z0 (And.intro f0 f2))
  clear z0 f0 f2 hc hA hF hg hchk hz hp0 hp1 hp2
  go_enter Tryd.func26, Tryd.ntmps26
  go_wp2_with (fail)
  refine (rcheckP F H.out.2.2.1 A n c a0 en (by omega) hn _ (H.out.1.below H0.out.1)).mono ?_
  rintro e W1 ⟨rfl, h1⟩
  rw [he]
  have H1 := Lib.hid (And.intro (gr_call H0.out.1 h1) (And.intro (H0.out.2.1.call h1) (H0.out.2.2.call h1)))
  have hw1 := (H0.out.2.2.call h1).lt
  clear h1 H0 he
  have hm2 : ¬ ((10000 : Int) < (m : Int)) := by omega
  go_wp2_with (fail)
  refine wp_region_late 10 [] (fun d x v => match d with
    | 24 => ∃ g, v = .slice (some ⟨g, 0, none⟩) 0 0 ∧ W1.heap.size ≤ g ∧ Blk x g 54 #[]
    | 25 => v = (.pointer (some ⟨w.heap.size, 0, none⟩))
    | 26 => v = .slice A n c
    | 27 => ∃ B d, v = .slice B n d ∧ Cells x B 10 n (flgAt F) ∧ ArgOk B n d ∧ ∀ a, B = some a → W1.heap.size ≤ a.block ∧ ∃ cs, Blk x a.block 54 cs
    | 28 => v = (.pointer (some ⟨w.heap.size, 1, none⟩))
    | 29 => v = .int .i64 (a0 : Int)
    | 30 => v = (.pointer (some ⟨w.heap.size, 2, none⟩))
    | 31 => v = .bool en
    | 32 => ∃ B d, v = .agg #[.slice B n d, .int .i64 (a0 : Int), .bool en] ∧ Cells x B 10 n (flgAt F) ∧ ArgOk B n d ∧ ∀ a, B = some a → W1.heap.size ≤ a.block ∧ ∃ cs, Blk x a.block 54 cs
    | 8 => ∃ g, v = .pointer (some ⟨g, 0, none⟩) ∧ Blk x g 30 #[.slice none 0 0, .int .i64 0, .bool false] ∧ W1.heap.size ≤ g
    | _ => v = .bool true) (by kernel_rfl) (by kernel_rfl) (by kernel_rfl) (by kernel_rfl) (by decide) ?stable ?dist ?steps ?fin
  case stable =>
    intro d x x' v hB h
    revert h
    split <;> intro h <;> first
      | exact h
      | (obtain ⟨g, e1, e2, e3⟩ := h; first | exact ⟨g, e1, e2, e3.call hB⟩ | exact ⟨g, e1, e2.call hB, e3⟩)
      | (obtain ⟨B, d, e1, e2, e3, e4⟩ := h; exact ⟨B, d, e1, e2.below hB, e3, fun a ha => ⟨(e4 a ha).1, by obtain ⟨cs, hcs⟩ := (e4 a ha).2; exact ⟨cs, hcs.call hB⟩⟩⟩)
  case dist =>
    intro d hd
    cases hd
  case steps =>
    refine ⟨?_, ?_⟩
    · intro a w' hB hsz hbase hdeps K hK
      obtain ⟨ev, hev⟩ : ∃ ev, ev = a.eval := ⟨_, rfl⟩
      have hec : ∀ v, ev (.const v) = v := fun v => by rw [hev]; rfl
      have hef : ∀ f, ev (.func f) = .func (.func f) #[] #[] := fun f => by rw [hev]; rfl
      rw [← hev] at hbase hdeps
      rw [if_pos (by kernel_rfl)]
      left
      refine step_val (v := .slice (some ⟨w'.heap.size, 0, none⟩) 0 0) (w' := w'.alloc (.cells #[] 54)) ?_ (hK _ _ (gr_alloc (Below.refl _ _) _) (by intro d hd; cases hd; exact ⟨_, rfl, hB.size, Blk.new _ _ _⟩) (by intro d hd hm; cases hd; exact absurd hm (by decide)))
      rw [← hev]
      clear hK hdeps hbase hev
      simp only [execOp, hec, hef]
      go_simp
    refine ⟨?_, ?_⟩
    · intro a w' hB hsz hbase hdeps K hK
      obtain ⟨ev, hev⟩ : ∃ ev, ev = a.eval := ⟨_, rfl⟩
      have hec : ∀ v, ev (.const v) = v := fun v => by rw [hev]; rfl
      have hef : ∀ f, ev (.func f) = .func (.func f) #[] #[] := fun f => by rw [hev]; rfl
      rw [← hev] at hbase hdeps
      have b2 : ev (.tmp 2) = (.pointer (some ⟨w.heap.size, 0, none⟩)) := (hbase 2 (by kernel_rfl))
      rw [if_pos (by kernel_rfl)]
      left
      refine step_val (v := (.pointer (some ⟨w.heap.size, 0, none⟩))) (w' := w') ?_ (hK _ _ (Below.refl _ _) (by intro d hd; cases hd; exact rfl) (by intro d hd hm; cases hd; exact absurd hm (by decide)))
      rw [← hev]
      clear hK hdeps hbase hev
      simp only [execOp, hec, hef, b2]
      go_simp
    refine ⟨?_, ?_⟩
    · intro a w' hB hsz hbase hdeps K hK
      obtain ⟨ev, hev⟩ : ∃ ev, ev = a.eval := ⟨_, rfl⟩
      have hec : ∀ v, ev (.const v) = v := fun v => by rw [hev]; rfl
      have hef : ∀ f, ev (.func f) = .func (.func f) #[] #[] := fun f => by rw [hev]; rfl
      rw [← hev] at hbase hdeps
      have d25 : ev (.tmp 25) = (.pointer (some ⟨w.heap.size, 0, none⟩)) := hdeps 25 (of_decide_eq_true (by kernel_rfl))
      rw [if_pos (by kernel_rfl)]
      left
      have fx := H1.out.2.1.call hB
      have zx := fx.lt
      have a0c := fx.cell' (i := 0) rfl
      have a1c := fx.cell' (i := 1) rfl
      have a2c := fx.cell' (i := 2) rfl
      clear fx
      refine step_val (v := .slice A n c) (w' := w') ?_ (hK _ _ (Below.refl _ _) (by intro d hd; cases hd; exact rfl) (by intro d hd hm; cases hd; exact absurd hm (by decide)))
      rw [← hev]
      clear hK hdeps hbase hev
      simp only [execOp, hec, hef, d25]
      go_simp
    refine ⟨?_, ?_⟩
    · intro a w' hB hsz hbase hdeps K hK
      obtain ⟨ev, hev⟩ : ∃ ev, ev = a.eval := ⟨_, rfl⟩
      have hec : ∀ v, ev (.const v) = v := fun v => by rw [hev]; rfl
      have hef : ∀ f, ev (.func f) = .func (.func f) #[] #[] := fun f => by rw [hev]; rfl
      rw [← hev] at hbase hdeps
      obtain ⟨g, d24, hgs, hgb⟩ := hdeps 24 (of_decide_eq_true (by kernel_rfl))
      have d26 : ev (.tmp 26) = .slice A n c := hdeps 26 (of_decide_eq_true (by kernel_rfl))
      rw [if_pos (by kernel_rfl)]
      left
      obtain ⟨B, d, x2, hrun, hcl, hok, hfr, hbl⟩ := copy_run F A n c hn w' g hgb H.out.2.1 (H.out.1.below (gr_call H1.out.1 hB))
      refine Lib.wp_append_run w' (.tmp 24) (.tmp 26) 22 22 rfl (.slice (some ⟨g, 0, none⟩) 0 0) (.slice A n c) (by rw [← hev]; exact d24) (by rw [← hev]; exact d26) _ _ hrun (hK _ _ hbl (by intro q hq; cases hq; exact ⟨B, d, rfl, hcl, hok, fun a ha => ⟨by have := (hfr a ha).1; have := hB.size; omega, (hfr a ha).2⟩⟩) (by intro d hd hm; cases hd; exact absurd hm (by decide)))
    refine ⟨?_, ?_⟩
    · intro a w' hB hsz hbase hdeps K hK
      obtain ⟨ev, hev⟩ : ∃ ev, ev = a.eval := ⟨_, rfl⟩
      have hec : ∀ v, ev (.const v) = v := fun v => by rw [hev]; rfl
      have hef : ∀ f, ev (.func f) = .func (.func f) #[] #[] := fun f => by rw [hev]; rfl
      rw [← hev] at hbase hdeps
      have b2 : ev (.tmp 2) = (.pointer (some ⟨w.heap.size, 0, none⟩)) := (hbase 2 (by kernel_rfl))
      rw [if_pos (by kernel_rfl)]
      left
      refine step_val (v := (.pointer (some ⟨w.heap.size, 1, none⟩))) (w' := w') ?_ (hK _ _ (Below.refl _ _) (by intro d hd; cases hd; exact rfl) (by intro d hd hm; cases hd; exact absurd hm (by decide)))
      rw [← hev]
      clear hK hdeps hbase hev
      simp only [execOp, hec, hef, b2]
      go_simp
    refine ⟨?_, ?_⟩
    · intro a w' hB hsz hbase hdeps K hK
      obtain ⟨ev, hev⟩ : ∃ ev, ev = a.eval := ⟨_, rfl⟩
      have hec : ∀ v, ev (.const v) = v := fun v => by rw [hev]; rfl
      have hef : ∀ f, ev (.func f) = .func (.func f) #[] #[] := fun f => by rw [hev]; rfl
      rw [← hev] at hbase hdeps
      have d28 : ev (.tmp 28) = (.pointer (some ⟨w.heap.size, 1, none⟩)) := hdeps 28 (of_decide_eq_true (by kernel_rfl))
      rw [if_pos (by kernel_rfl)]
      left
      have fx := H1.out.2.1.call hB
      have zx := fx.lt
      have a0c := fx.cell' (i := 0) rfl
      have a1c := fx.cell' (i := 1) rfl
      have a2c := fx.cell' (i := 2) rfl
      clear fx
      refine step_val (v := .int .i64 (a0 : Int)) (w' := w') ?_ (hK _ _ (Below.refl _ _) (by intro d hd; cases hd; exact rfl) (by intro d hd hm; cases hd; exact absurd hm (by decide)))
      rw [← hev]
      clear hK hdeps hbase hev
      simp only [execOp, hec, hef, d28]
      go_simp
    refine ⟨?_, ?_⟩
    · intro a w' hB hsz hbase hdeps K hK
      obtain ⟨ev, hev⟩ : ∃ ev, ev = a.eval := ⟨_, rfl⟩
      have hec : ∀ v, ev (.const v) = v := fun v => by rw [hev]; rfl
      have hef : ∀ f, ev (.func f) = .func (.func f) #[] #[] := fun f => by rw [hev]; rfl
      rw [← hev] at hbase hdeps
      have b2 : ev (.tmp 2) = (.pointer (some ⟨w.heap.size, 0, none⟩)) := (hbase 2 (by kernel_rfl))
      rw [if_pos (by kernel_rfl)]
      left
      refine step_val (v := (.pointer (some ⟨w.heap.size, 2, none⟩))) (w' := w') ?_ (hK _ _ (Below.refl _ _) (by intro d hd; cases hd; exact rfl) (by intro d hd hm; cases hd; exact absurd hm (by decide)))
      rw [← hev]
      clear hK hdeps hbase hev
      simp only [execOp, hec, hef, b2]
      go_simp
    refine ⟨?_, ?_⟩
    · intro a w' hB hsz hbase hdeps K hK
      obtain ⟨ev, hev⟩ : ∃ ev, ev = a.eval := ⟨_, rfl⟩
      have hec : ∀ v, ev (.const v) = v := fun v => by rw [hev]; rfl
      have hef : ∀ f, ev (.func f) = .func (.func f) #[] #[] := fun f => by rw [hev]; rfl
      rw [← hev] at hbase hdeps
      have d30 : ev (.tmp 30) = (.pointer (some ⟨w.heap.size, 2, none⟩)) := hdeps 30 (of_decide_eq_true (by kernel_rfl))
      rw [if_pos (by kernel_rfl)]
      left
      have fx := H1.out.2.1.call hB
      have zx := fx.lt
      have a0c := fx.cell' (i := 0) rfl
      have a1c := fx.cell' (i := 1) rfl
      have a2c := fx.cell' (i := 2) rfl
      clear fx
      refine step_val (v := .bool en) (w' := w') ?_ (hK _ _ (Below.refl _ _) (by intro d hd; cases hd; exact rfl) (by intro d hd hm; cases hd; exact absurd hm (by decide)))
      rw [← hev]
      clear hK hdeps hbase hev
      simp only [execOp, hec, hef, d30]
      go_simp
    refine ⟨?_, ?_⟩
    · intro a w' hB hsz hbase hdeps K hK
      obtain ⟨ev, hev⟩ : ∃ ev, ev = a.eval := ⟨_, rfl⟩
      have hec : ∀ v, ev (.const v) = v := fun v => by rw [hev]; rfl
      have hef : ∀ f, ev (.func f) = .func (.func f) #[] #[] := fun f => by rw [hev]; rfl
      rw [← hev] at hbase hdeps
      obtain ⟨B, d, d27, hcl, hok, hfr⟩ := hdeps 27 (of_decide_eq_true (by kernel_rfl))
      have d29 : ev (.tmp 29) = .int .i64 (a0 : Int) := hdeps 29 (of_decide_eq_true (by kernel_rfl))
      have d31 : ev (.tmp 31) = .bool en := hdeps 31 (of_decide_eq_true (by kernel_rfl))
      rw [if_pos (by kernel_rfl)]
      left
      refine step_val (v := .agg #[.slice B n d, .int .i64 (a0 : Int), .bool en]) (w' := w') ?_ (hK _ _ (Below.refl _ _) (by intro q hq; cases hq; exact ⟨B, d, rfl, hcl, hok, hfr⟩) (by intro d hd hm; cases hd; exact absurd hm (by decide)))
      rw [← hev]
      clear hK hdeps hbase hev
      simp only [execOp, hec, hef, d27, d29, d31]
      go_simp
    refine ⟨?_, ?_⟩
    · intro a w' hB hsz hbase hdeps K hK
      obtain ⟨ev, hev⟩ : ∃ ev, ev = a.eval := ⟨_, rfl⟩
      have hec : ∀ v, ev (.const v) = v := fun v => by rw [hev]; rfl
      have hef : ∀ f, ev (.func f) = .func (.func f) #[] #[] := fun f => by rw [hev]; rfl
      rw [← hev] at hbase hdeps
      rw [if_pos (by kernel_rfl)]
      left
      refine step_val (v := .pointer (some ⟨w'.heap.size, 0, none⟩)) (w' := w'.alloc (.cells #[.slice none 0 0, .int .i64 0, .bool false] 30)) ?_ (hK _ _ (gr_alloc (Below.refl _ _) _) (by intro d hd; cases hd; exact ⟨_, rfl, Blk.new _ _ _, hB.size⟩) (by intro d hd hm; cases hd; exact absurd hm (by decide)))
      rw [← hev]
      clear hK hdeps hbase hev
      simp only [execOp, hec, hef]
      go_simp
    exact trivial

  case fin =>
    intro a x hB hsz hdef hbase hS _
    obtain ⟨O, hO, hOb, hOs⟩ := hS _ (List.mem_of_getElem? (i := 9) rfl) 8 rfl
    obtain ⟨B, d, h32, hcl, hok, hfr⟩ := hS _ (List.mem_of_getElem? (i := 8) rfl) 32 rfl
    obtain ⟨g24, h24, _⟩ := hS _ (List.mem_of_getElem? (i := 0) rfl) 24 rfl
    obtain ⟨B', d', h27, _⟩ := hS _ (List.mem_of_getElem? (i := 3) rfl) 27 rfl
    have h25 : a.eval (.tmp 25) = (.pointer (some ⟨w.heap.size, 0, none⟩)) := hS _ (List.mem_of_getElem? (i := 1) rfl) 25 rfl
    have h26 : a.eval (.tmp 26) = .slice A n c := hS _ (List.mem_of_getElem? (i := 2) rfl) 26 rfl
    have h28 : a.eval (.tmp 28) = (.pointer (some ⟨w.heap.size, 1, none⟩)) := hS _ (List.mem_of_getElem? (i := 4) rfl) 28 rfl
    have h29 : a.eval (.tmp 29) = .int .i64 (a0 : Int) := hS _ (List.mem_of_getElem? (i := 5) rfl) 29 rfl
    have h30 : a.eval (.tmp 30) = (.pointer (some ⟨w.heap.size, 2, none⟩)) := hS _ (List.mem_of_getElem? (i := 6) rfl) 30 rfl
    have h31 : a.eval (.tmp 31) = .bool en := hS _ (List.mem_of_getElem? (i := 7) rfl) 31 rfl
    have ha := act_over [(8, .pointer (some ⟨O, 0, none⟩)), (24, .slice (some ⟨g24, 0, none⟩) 0 0), (25, (.pointer (some ⟨w.heap.size, 0, none⟩))), (26, .slice A n c), (27, .slice B' n d'), (28, (.pointer (some ⟨w.heap.size, 1, none⟩))), (29, .int .i64 (a0 : Int)), (30, (.pointer (some ⟨w.heap.size, 2, none⟩))), (31, .bool en), (32, .agg #[.slice B n d, .int .i64 (a0 : Int), .bool en])] hsz hdef hbase (by kernel_rfl) ⟨hO, h24, h25, h26, h27, h28, h29, h30, h31, h32, trivial⟩
    have x2 := H1.out.2.2.call hB
    have ix := gr_call H1.out.1 hB
    have hBne : ∀ a, B = some a → a.block ≠ O ∧ a.block ≠ w.heap.size + 1 := fun q hq => by
      obtain ⟨e1, cs, e2⟩ := hfr q hq
      exact ⟨Blk.ne_ e2 hOb (by decide), by omega⟩
    have hOne : w.heap.size + 1 ≠ O := by omega
    clear hsz hdef hbase hS hO h32 hfr h24 h25 h26 h27 h28 h29 h30 h31
    subst ha
    simp only [List.drop, putAll]
    have o0 := hOb.cell' (i := 0) rfl
    have o1 := hOb.cell' (i := 1) rfl
    have o2 := hOb.cell' (i := 2) rfl
    have of0 := hOb.frozen 0
    have of1 := hOb.frozen 1
    have of2 := hOb.frozen 2
    have ol := hOb.lt
    have HO := Lib.hid (And.intro hOb (And.intro x2 (And.intro ix (And.intro hcl (And.intro hok hBne)))))
    clear hOb x2 ix hcl hok hBne hB H1
    go_wp2_with (fail)
    obtain ⟨X, hX⟩ : ∃ X, X = ((x.setCell ⟨O, 0, none⟩ (.slice B n d)).setCell ⟨O, 1, none⟩ (.int .i64 (a0 : Int))).setCell ⟨O, 2, none⟩ (.bool en) := ⟨_, rfl⟩
    have hXO : Blk X O 30 #[.slice B n d, .int .i64 (a0 : Int), .bool en] := by rw [hX]; exact ((HO.out.1.set_ 0 (.slice B n d)).set_ 1 (.int .i64 (a0 : Int))).set_ 2 (.bool en)
    have hXR : Blk X (w.heap.size + 1) 30 #[.slice none 0 0, .int .i64 0, .bool false] := by rw [hX]; exact ((HO.out.2.1.far (p := ⟨O, 0, none⟩) hOne _).far (p := ⟨O, 1, none⟩) hOne _).far (p := ⟨O, 2, none⟩) hOne _
    have hXz : Below w.heap.size w X := by rw [hX]; exact gr_set (gr_set (gr_set HO.out.2.2.1 (by simp; omega) _) (by simp; omega) _) (by simp; omega) _
    have hXc : Cells X B 10 n (flgAt F) := by rw [hX]; exact ((HO.out.2.2.2.1.far (fun a ha => (HO.out.2.2.2.2.2 a ha).1) 0 _).far (fun a ha => (HO.out.2.2.2.2.2 a ha).1) 1 _).far (fun a ha => (HO.out.2.2.2.2.2 a ha).1) 2 _
    rw [← hX]
    have HX := Lib.hid (And.intro hXO (And.intro hXR (And.intro hXz hXc)))
    clear hX hXO hXR hXz hXc o0 o1 o2 of0 of1 of2 ol
    go_loopg [9, 10] m (fun l v i wr => RunRel F n (ansL G m) a0 en m B d O w X l v i wr)
    case atStart => exact ⟨0, Nat.zero_le _, by omega, rfl, fun j hj => absurd hj (by omega), HX.out.1, World.ownsRow_nil _ _ _ _, only_refl _ _⟩
    case round =>
      obtain ⟨i, him, hl, rfl, hgd, hbo, how, hgr⟩ := hrel
      have hk1 : ansL G m (atN F n (ansL G m) a0 i) i = if i < m then some (G i) else none := rfl
      have hO1 : O ≠ w.heap.size + 1 := by omega
      have hz : Below w.heap.size w wr := below_only_trans HX.out.2.2.1 hgr (by have := HX.out.2.2.1.size; exact this) (fun q e => by cases e; omega)
      have hcB : Cells wr B 10 n (flgAt F) := HX.out.2.2.2.grown hgr (fun a q e1 e2 => by cases e2; exact (HO.out.2.2.2.2.2 a e1).1)
      have c0 := hbo.cell' (i := 0) rfl
      have c1 := hbo.cell' (i := 1) rfl
      have cf1 := hbo.frozen 1
      have cf2 := hbo.frozen 2
      have ol := hbo.lt
      have hle := atN_le F n (ansL G m) a0 ha0 i
      have HR := Lib.hid (And.intro hl (And.intro hgd (And.intro hbo (And.intro how (And.intro hgr (And.intro hz hcB))))))
      obtain ⟨va, vc, rfl⟩ := own_slice how
      obtain ⟨t, ht⟩ : ∃ t, t = atN F n (ansL G m) a0 i := ⟨_, rfl⟩
      rw [← ht] at c1 hle
      have HT := Lib.hid ht
      clear hl hgd hbo how hgr hz hcB ht hk1
      by_cases him2 : i < m
      · by_cases htn : t < n
        · obtain ⟨i0, hi, hz0, hz1, hz2⟩ := info_parts infoInt
          have how := HR.out.2.2.2.1
          go_wp2_with (at_builtin; refine wpList_append_own _ rfl _ _ 40 rfl X.heap.size 3 i0 (.int .i64 0) 1 8 Tryd.underlying40 hi hz0 hz1 hz2 rfl (by decide) _ _ _ rfl (how.alloc _) ⟨wr.heap.size, 0, none⟩ 1 1 [.int .i64 (t : Int)] rfl rfl ?c1 ?c2 ?c3 ?c4 ?c5 ?_)
          case c1 => exact one_new rfl _ _
          case c2 => exact one_int _ _
          case c3 => unfold maxLen; omega
          case c4 => omega
          case c5 => have := HR.out.2.2.2.2.1.size; simp; omega
          intro v' w2 hown' hgrow _
          obtain ⟨vb, vd, rfl⟩ := own_slice hown'
          have hbo2 := (HR.out.2.2.1.alloc (.cells #[.int .i64 (t : Int)] 3)).grown hgrow (own_blk_ne (how.alloc (.cells #[.int .i64 (t : Int)] 3)) (HR.out.2.2.1.alloc (.cells #[.int .i64 (t : Int)] 3)) (by decide))
          have hgr2 := grown_mix (only_alloc HR.out.2.2.2.2.1 (.cells #[.int .i64 (t : Int)] 3)) hgrow (fun q hq => Or.inr (how.lt q hq).1)
          rw [← HT.out] at hbo2
          have c0 := hbo2.cell' (i := 0) rfl
          have c1 := hbo2.cell' (i := 1) rfl
          have cf1 := hbo2.frozen 1
          have cf2 := hbo2.frozen 2
          have ol := hbo2.lt
          have hz2 : Below w.heap.size w w2 := (gr_alloc HR.out.2.2.2.2.2.1 (.cells #[.int .i64 (t : Int)] 3)).grown hgrow (by have := HR.out.2.2.2.2.2.1.size; simp; omega) (fun q hq => by have := (how.lt q hq).1; have := HX.out.2.2.1.size; omega)
          obtain ⟨gb, go, rfl, hgl, hgc⟩ := (H.out.2.2.2.1.below hz2) (by omega)
          have e0 : w2.cell? ⟨gb, go + i, none⟩ = some (.bool (G i)) := by have h1 := hgc i 0 him2 (by decide); rw [Nat.mul_one, Nat.add_zero] at h1; exact h1
          have hc2 : Cells w2 B 10 n (flgAt F) := HX.out.2.2.2.grown hgr2 (fun a q e1 e2 => by cases e2; exact (HO.out.2.2.2.2.2 a e1).1)
          have hans : ansL G m (atN F n (ansL G m) a0 i) i = some (G i) := if_pos him2
          have H2 := Lib.hid (And.intro hbo2 (And.intro hown' (And.intro hgr2 (And.intro hc2 hans))))
          clear hbo2 hown' hgr2 hgrow how hgc hz2 hc2 hans
          go_wp2_with (fail)
          go_region_with (go_at_call 43; refine (rafter F B n d t hn htn (H.out.2.2.2.2 t htn) (G i) _ (by exact H2.out.2.2.2.1)).mono ?_; rintro e W ⟨rfl, hb⟩; have yb : Blk W O 30 #[.slice B n d, .int .i64 (t : Int), .bool (enN F n (ansL G m) a0 en i)] := Blk.call (by exact H2.out.1) hb; have yc1 := yb.cell' (i := 1) rfl; have yc2 := yb.cell' (i := 2) rfl; have yf1 := yb.frozen 1; have yf2 := yb.frozen 2; have yl := yb.lt)
          all_goals
            have e1 : atN F n (ansL G m) a0 (i + 1) = nextP F n t (G i) := by rw [at_succ H2.out.2.2.2.2, ← HT.out]
            have e2 : enN F n (ansL G m) a0 en (i + 1) = overP F t (G i) := by rw [en_succ H2.out.2.2.2.2, ← HT.out]
            have e3 : Good F n (ansL G m) a0 (i + 1) := good_succ HR.out.2.1 (by rw [← HT.out]; exact htn) H2.out.2.2.2.2
            have e4 : triedN F n (ansL G m) a0 (i + 1) = triedN F n (ansL G m) a0 i ++ [t] := by rw [triedN_succ, ← HT.out]
            have e5 : W.ownsRow X.heap.size 3 1 (.slice vb (i + 1) vd) (i + 1) (intL (triedN F n (ansL G m) a0 i) ++ [.int .i64 (t : Int)]) := own_below (by exact H2.out.2.1) hb (Nat.le_refl _)
            have e6 : X.grownBy W (some O) := grown_mix (only_drew H2.out.2.2.1) (only_of_below hb none) (fun q hq => by cases hq)
            have H9 := Lib.hid (And.intro e1 (And.intro e2 (And.intro e3 (And.intro e4 (And.intro e5 (And.intro e6 yb))))))
            clear e1 e2 e3 e4 e5 e6 yb hb c0 c1 cf1 cf2 e0 yc1 yc2 yf1 yf2 yl ol
            go_wp2_with (fail)
            go_roundg (m - (i + 1))
            case measure => have := HR.out.1; omega
            case rel =>
              refine ⟨i + 1, by omega, rfl, rfl, H9.out.2.2.1, ?_, ?_, ?_⟩
              · rw [H9.out.1, H9.out.2.1]
                exact (H9.out.2.2.2.2.2.2.set_ 1 (.int .i64 (nextP F n t (G i) : Int))).set_ 2 (.bool (overP F t (G i)))
              · rw [H9.out.2.2.2.1, intL_snoc]
                exact own_setCell (own_setCell H9.out.2.2.2.2.1 H9.out.2.2.2.2.2.2 (by decide) _) (H9.out.2.2.2.2.2.2.set_ 1 _) (by decide) _
              · exact only_setCell (only_setCell H9.out.2.2.2.2.2.1 (Or.inl rfl) _) (Or.inl rfl) _
        · have c2 := HR.out.2.2.1.cell' (i := 2) rfl
          have HRES := Lib.hid (HX.out.2.1.grown HR.out.2.2.2.2.1 (by intro e; cases e; omega))
          have y0 := HRES.out.cell' (i := 0) rfl
          have y1 := HRES.out.cell' (i := 1) rfl
          have y2 := HRES.out.cell' (i := 2) rfl
          have yf0 := HRES.out.frozen 0
          have yf1 := HRES.out.frozen 1
          have yf2 := HRES.out.frozen 2
          have yl := HRES.out.lt
          go_wp2_with (fail)
          refine bodyPost_ret (v := .tuple #[.agg #[.slice B n d, .int .i64 (t : Int), .bool (enN F n (ansL G m) a0 en i)], .slice va i vc, .int .i64 0]) (by simp [results, Tryd.results26, go_sem, y0, y1, y2, yl]) rfl
            ⟨B, d, i, .slice va i vc, by rw [← HT.out], him, Or.inl (by rw [← HT.out]; exact htn), HR.out.2.1, ?_, HO.out.2.2.2.2.1, ?_, ?_⟩
          · have hf : ∀ a, B = some a → a.block ≠ w.heap.size + 1 := fun a ha => (HO.out.2.2.2.2.2 a ha).2
            exact ((HR.out.2.2.2.2.2.2.far hf 0 _).far hf 1 _).far hf 2 _
          · have h1 := own_weaken (base' := w.heap.size) HR.out.2.2.2.1 HX.out.2.2.1.size
            exact own_setCell (own_setCell (own_setCell h1 HRES.out (by decide) _) (HRES.out.set_ 0 _) (by decide) _) ((HRES.out.set_ 0 _).set_ 1 _) (by decide) _
          · exact gr_set (gr_set (gr_set HR.out.2.2.2.2.2.1 (by simp) _) (by simp) _) (by simp) _
      · obtain rfl : i = m := by omega
        have c2 := HR.out.2.2.1.cell' (i := 2) rfl
        have HRES := Lib.hid (HX.out.2.1.grown HR.out.2.2.2.2.1 (by intro e; cases e; omega))
        have y0 := HRES.out.cell' (i := 0) rfl
        have y1 := HRES.out.cell' (i := 1) rfl
        have y2 := HRES.out.cell' (i := 2) rfl
        have yf0 := HRES.out.frozen 0
        have yf1 := HRES.out.frozen 1
        have yf2 := HRES.out.frozen 2
        have yl := HRES.out.lt
        go_wp2_with (fail)
        refine bodyPost_ret (v := .tuple #[.agg #[.slice B n d, .int .i64 (t : Int), .bool (enN F n (ansL G i) a0 en i)], .slice va i vc, .int .i64 0]) (by simp [results, Tryd.results26, go_sem, y0, y1, y2, yl]) rfl
          ⟨B, d, i, .slice va i vc, by rw [← HT.out], him, Or.inr (if_neg (Nat.lt_irrefl _)), HR.out.2.1, ?_, HO.out.2.2.2.2.1, ?_, ?_⟩
        · have hf : ∀ a, B = some a → a.block ≠ w.heap.size + 1 := fun a ha => (HO.out.2.2.2.2.2 a ha).2
          exact ((HR.out.2.2.2.2.2.2.far hf 0 _).far hf 1 _).far hf 2 _
        · have h1 := own_weaken (base' := w.heap.size) HR.out.2.2.2.1 HX.out.2.2.1.size
          exact own_setCell (own_setCell (own_setCell h1 HRES.out (by decide) _) (HRES.out.set_ 0 _) (by decide) _) ((HRES.out.set_ 0 _).set_ 1 _) (by decide) _
        · exact gr_set (gr_set (gr_set HR.out.2.2.2.2.2.1 (by simp) _) (by simp) _) (by simp) _
end Go.Proofs.YtjkmkpehnnkpiaaDoor
