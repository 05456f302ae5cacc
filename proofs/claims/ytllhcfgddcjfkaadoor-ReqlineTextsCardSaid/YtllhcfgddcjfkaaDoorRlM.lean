/-
  ReqlineTexts and ReqlineLong, walked: they return true, whatever the input; condition: a variable of the library is an int.
-/
import Derived.Test.YtllhcfgddcjfkaaDoorRlK
import Derived.Test.YtllhcfgddcjfkaaDoorInw
namespace Go.Proofs.YtllhcfgddcjfkaaDoor
open Go.RowKit
set_option linter.unusedVariables false
set_option linter.unusedSimpArgs false

set_option maxRecDepth 100000 in
set_option maxHeartbeats 8000000 in
theorem law_texts (m t : ByteArray) (hsm : m.size ≤ 9223372036854775807) (hst : t.size ≤ 9223372036854775807) (w : World) (hm : MaxOk w) :
    Calls Tryd.prog 9 #[.agg #[.string m, .string t]] w fun e W' => e = .returned (.bool true) ∧ Below w.heap.size w W' := by
  have HM := Lib.hid hm
  have z0 := gr_alloc (Below.refl w.heap.size w) (.cells #[.string m, .string t] 29)
  have b0 := Blk.new w 29 #[.string m, .string t]
  have x0 := b0.cell' (i := 0) rfl
  have x1 := b0.cell' (i := 1) rfl
  have xl := b0.lt
  have HZ := Lib.hid (And.intro b0 z0)
  clear z0 b0 hm
  go_enter Tryd.func9, Tryd.ntmps9
  by_cases h60 : (60 : Int) < (m.size : Int)
  · go_wp2_with (fail)
    refine (awake _ (HM.out.below HZ.out.2)).mono ?_
    rintro e W1 ⟨rfl, h1⟩
    have H1 := Lib.hid (gr_call HZ.out.2 h1)
    clear h1
    go_wp2_with (fail)
    go_ret
    exact ⟨rfl, H1.out⟩
  · by_cases h12 : (1200 : Int) < (t.size : Int)
    · go_wp2_with (fail)
      refine (awake _ (HM.out.below HZ.out.2)).mono ?_
      rintro e W1 ⟨rfl, h1⟩
      have H1 := Lib.hid (gr_call HZ.out.2 h1)
      clear h1
      go_wp2_with (fail)
      go_ret
      exact ⟨rfl, H1.out⟩
    · have hzm : m.size ≤ 1000000 := by omega
      have hzt : t.size ≤ 1000000 := by omega
      go_wp2_with (fail)
      refine (btext m t hzm hzt _).mono ?_
      rintro e W1 ⟨rfl, h1⟩
      have y := HZ.out.1.call h1
      have y0 := y.cell' (i := 0) rfl
      have y1 := y.cell' (i := 1) rfl
      have yl := y.lt
      have H1 := Lib.hid (And.intro y (gr_call HZ.out.2 h1))
      clear x0 x1 xl y h1
      obtain ⟨T, hT⟩ : ∃ T, T = txtS m t := ⟨_, rfl⟩
      obtain ⟨E, hE⟩ : ∃ E, E = txtE m t := ⟨_, rfl⟩
      rw [← hT, ← hE]
      have HT := Lib.hid (And.intro hT hE)
      clear hT hE
      go_wp2_with (fail)
      refine (rtext m t hzm hzt _).mono ?_
      rintro e W2 ⟨rfl, h1⟩
      rw [← HT.out.1, ← HT.out.2]
      have x := H1.out.1.call h1
      have x0 := x.cell' (i := 0) rfl
      have x1 := x.cell' (i := 1) rfl
      have xl := x.lt
      have H2 := Lib.hid (And.intro x (gr_call H1.out.2 h1))
      clear y0 y1 yl x h1
      go_wp2_with (fail)
      refine (bknown m _).mono ?_
      rintro e W3 ⟨rfl, h1⟩
      have y := H2.out.1.call h1
      have y0 := y.cell' (i := 0) rfl
      have y1 := y.cell' (i := 1) rfl
      have yl := y.lt
      have H3 := Lib.hid (And.intro y (gr_call H2.out.2 h1))
      clear x0 x1 xl y h1
      obtain ⟨kn, hK⟩ : ∃ kn, kn = knownN m := ⟨_, rfl⟩
      obtain ⟨B, hB⟩ : ∃ B, B = knownB m := ⟨_, rfl⟩
      rw [← hK, ← hB]
      have HK := Lib.hid (And.intro hK hB)
      clear hK hB
      go_wp2_with (fail)
      refine (rknown m _).mono ?_
      rintro e W4 ⟨rfl, rfl⟩
      rw [← HK.out.1, ← HK.out.2]
      go_wp2_with (fail)
      obtain ⟨G, hG⟩ : ∃ G, G = tgtE t := ⟨_, rfl⟩
      have HG := Lib.hid hG.symm
      clear hG y0 y1 yl
      refine wp_region_late 31 [] (fun d x v => match d with
    | 44 => v = .string T
    | 45 => v = .string T
    | 48 => v = .int .i64 E
    | 49 => v = .int .i64 E
    | 53 => v = .pointer (some ⟨w.heap.size, 1, none⟩)
    | 54 => v = .string t
    | 55 => v = .int .i64 G
    | 56 => v = .pointer (some ⟨w.heap.size, 1, none⟩)
    | 57 => v = .string t
    | 58 => v = .int .i64 G
    | 62 => v = .int .i64 kn
    | 63 => v = .int .i64 kn
    | 67 => v = .bool B
    | 68 => v = .bool B
    | _ => v = .bool true) (by kernel_rfl) (by kernel_rfl) (by kernel_rfl) (by kernel_rfl) (by decide) ?stable ?dist ?steps ?fin
      case stable =>
        intro d x x' v hB h
        revert h
        split <;> intro h <;> exact h
      case dist =>
        intro d hd
        cases hd
      case steps =>
        refine ⟨?_, ?_⟩
        · intro a w' hB hsz hbase hdeps K hK
          obtain ⟨ev, hev⟩ : ∃ ev, ev = a.eval := ⟨_, rfl⟩
          have hec : ∀ v, ev (.const v) = v := fun v => by rw [hev]; rfl
          have hef : ∀ f, ev (.func f) = .func (.func f) #[] #[] := fun f => by rw [hev]; rfl
          rw [← hev] at hbase hdeps
          have b3 : ev (.tmp 3) = .string T := (hbase 3 (by kernel_rfl))
          rw [if_pos (by kernel_rfl)]
          left
          refine step_val (v := .string T) (w' := w') ?_ (hK _ _ (Below.refl _ _) (by intro d hd; cases hd; exact rfl) (by intro d hd hm; cases hd; exact absurd hm (by decide)))
          rw [← hev]
          clear hK hdeps hbase hev
          simp only [execOp, hec, hef, b3]
          go_simp
        refine ⟨?_, ?_⟩
        · intro a w' hB hsz hbase hdeps K hK
          obtain ⟨ev, hev⟩ : ∃ ev, ev = a.eval := ⟨_, rfl⟩
          have hec : ∀ v, ev (.const v) = v := fun v => by rw [hev]; rfl
          have hef : ∀ f, ev (.func f) = .func (.func f) #[] #[] := fun f => by rw [hev]; rfl
          rw [← hev] at hbase hdeps
          have b5 : ev (.tmp 5) = .string T := (hbase 5 (by kernel_rfl))
          rw [if_pos (by kernel_rfl)]
          left
          refine step_val (v := .string T) (w' := w') ?_ (hK _ _ (Below.refl _ _) (by intro d hd; cases hd; exact rfl) (by intro d hd hm; cases hd; exact absurd hm (by decide)))
          rw [← hev]
          clear hK hdeps hbase hev
          simp only [execOp, hec, hef, b5]
          go_simp
        refine ⟨?_, ?_⟩
        · intro a w' hB hsz hbase hdeps K hK
          obtain ⟨ev, hev⟩ : ∃ ev, ev = a.eval := ⟨_, rfl⟩
          have hec : ∀ v, ev (.const v) = v := fun v => by rw [hev]; rfl
          have hef : ∀ f, ev (.func f) = .func (.func f) #[] #[] := fun f => by rw [hev]; rfl
          rw [← hev] at hbase hdeps
          have d44 : ev (.tmp 44) = .string T := hdeps 44 (of_decide_eq_true (by kernel_rfl))
          have d45 : ev (.tmp 45) = .string T := hdeps 45 (of_decide_eq_true (by kernel_rfl))
          rw [if_pos (by kernel_rfl)]
          left
          refine step_val (v := .bool true) (w' := w') ?_ (hK _ _ (Below.refl _ _) (by intro d hd; cases hd; exact rfl) (by intro d hd hm; cases hd; exact absurd hm (by decide)))
          rw [← hev]
          clear hK hdeps hbase hev
          simp only [execOp, hec, hef, d44, d45]
          go_simp
        refine ⟨?_, ?_⟩
        · intro a w' hB hsz hbase hdeps K hK
          obtain ⟨ev, hev⟩ : ∃ ev, ev = a.eval := ⟨_, rfl⟩
          have hec : ∀ v, ev (.const v) = v := fun v => by rw [hev]; rfl
          have hef : ∀ f, ev (.func f) = .func (.func f) #[] #[] := fun f => by rw [hev]; rfl
          rw [← hev] at hbase hdeps
          have d46 : ev (.tmp 46) = .bool true := hdeps 46 (of_decide_eq_true (by kernel_rfl))
          rw [if_pos (by kernel_rfl)]
          left
          refine step_val (v := .bool true) (w' := w') ?_ (hK _ _ (Below.refl _ _) (by intro d hd; cases hd; exact rfl) (by intro d hd hm; cases hd; exact absurd hm (by decide)))
          rw [← hev]
          clear hK hdeps hbase hev
          simp only [execOp, hec, hef, d46]
          go_simp
        refine ⟨?_, ?_⟩
        · intro a w' hB hsz hbase hdeps K hK
          obtain ⟨ev, hev⟩ : ∃ ev, ev = a.eval := ⟨_, rfl⟩
          have hec : ∀ v, ev (.const v) = v := fun v => by rw [hev]; rfl
          have hef : ∀ f, ev (.func f) = .func (.func f) #[] #[] := fun f => by rw [hev]; rfl
          rw [← hev] at hbase hdeps
          have b4 : ev (.tmp 4) = .int .i64 E := (hbase 4 (by kernel_rfl))
          rw [if_pos (wanted_of (j := 3) (b := true) (d := 47) rfl (by kernel_rfl) (by rw [← hev]; exact hdeps 47 (of_decide_eq_true (by kernel_rfl))))]
          left
          refine step_val (v := .int .i64 E) (w' := w') ?_ (hK _ _ (Below.refl _ _) (by intro d hd; cases hd; exact rfl) (by intro d hd hm; cases hd; exact absurd hm (by decide)))
          rw [← hev]
          clear hK hdeps hbase hev
          simp only [execOp, hec, hef, b4]
          go_simp
        refine ⟨?_, ?_⟩
        · intro a w' hB hsz hbase hdeps K hK
          obtain ⟨ev, hev⟩ : ∃ ev, ev = a.eval := ⟨_, rfl⟩
          have hec : ∀ v, ev (.const v) = v := fun v => by rw [hev]; rfl
          have hef : ∀ f, ev (.func f) = .func (.func f) #[] #[] := fun f => by rw [hev]; rfl
          rw [← hev] at hbase hdeps
          have b6 : ev (.tmp 6) = .int .i64 E := (hbase 6 (by kernel_rfl))
          rw [if_pos (wanted_of (j := 3) (b := true) (d := 47) rfl (by kernel_rfl) (by rw [← hev]; exact hdeps 47 (of_decide_eq_true (by kernel_rfl))))]
          left
          refine step_val (v := .int .i64 E) (w' := w') ?_ (hK _ _ (Below.refl _ _) (by intro d hd; cases hd; exact rfl) (by intro d hd hm; cases hd; exact absurd hm (by decide)))
          rw [← hev]
          clear hK hdeps hbase hev
          simp only [execOp, hec, hef, b6]
          go_simp
        refine ⟨?_, ?_⟩
        · intro a w' hB hsz hbase hdeps K hK
          obtain ⟨ev, hev⟩ : ∃ ev, ev = a.eval := ⟨_, rfl⟩
          have hec : ∀ v, ev (.const v) = v := fun v => by rw [hev]; rfl
          have hef : ∀ f, ev (.func f) = .func (.func f) #[] #[] := fun f => by rw [hev]; rfl
          rw [← hev] at hbase hdeps
          have d48 : ev (.tmp 48) = .int .i64 E := hdeps 48 (of_decide_eq_true (by kernel_rfl))
          have d49 : ev (.tmp 49) = .int .i64 E := hdeps 49 (of_decide_eq_true (by kernel_rfl))
          rw [if_pos (wanted_of (j := 3) (b := true) (d := 47) rfl (by kernel_rfl) (by rw [← hev]; exact hdeps 47 (of_decide_eq_true (by kernel_rfl))))]
          left
          refine step_val (v := .bool true) (w' := w') ?_ (hK _ _ (Below.refl _ _) (by intro d hd; cases hd; exact rfl) (by intro d hd hm; cases hd; exact absurd hm (by decide)))
          rw [← hev]
          clear hK hdeps hbase hev
          simp only [execOp, hec, hef, d48, d49]
          go_simp
        refine ⟨?_, ?_⟩
        · intro a w' hB hsz hbase hdeps K hK
          obtain ⟨ev, hev⟩ : ∃ ev, ev = a.eval := ⟨_, rfl⟩
          have hec : ∀ v, ev (.const v) = v := fun v => by rw [hev]; rfl
          have hef : ∀ f, ev (.func f) = .func (.func f) #[] #[] := fun f => by rw [hev]; rfl
          rw [← hev] at hbase hdeps
          have d47 : ev (.tmp 47) = .bool true := hdeps 47 (of_decide_eq_true (by kernel_rfl))
          have d50 : ev (.tmp 50) = .bool true := hdeps 50 (of_decide_eq_true (by kernel_rfl))
          rw [if_pos (by kernel_rfl)]
          left
          refine step_val (v := .bool true) (w' := w') ?_ (hK _ _ (Below.refl _ _) (by intro d hd; cases hd; exact rfl) (by intro d hd hm; cases hd; exact absurd hm (by decide)))
          rw [← hev]
          clear hK hdeps hbase hev
          simp only [execOp, hec, hef, d47, d50]
          go_simp
        refine ⟨?_, ?_⟩
        · intro a w' hB hsz hbase hdeps K hK
          obtain ⟨ev, hev⟩ : ∃ ev, ev = a.eval := ⟨_, rfl⟩
          have hec : ∀ v, ev (.const v) = v := fun v => by rw [hev]; rfl
          have hef : ∀ f, ev (.func f) = .func (.func f) #[] #[] := fun f => by rw [hev]; rfl
          rw [← hev] at hbase hdeps
          have d51 : ev (.tmp 51) = .bool true := hdeps 51 (of_decide_eq_true (by kernel_rfl))
          rw [if_pos (by kernel_rfl)]
          left
          refine step_val (v := .bool true) (w' := w') ?_ (hK _ _ (Below.refl _ _) (by intro d hd; cases hd; exact rfl) (by intro d hd hm; cases hd; exact absurd hm (by decide)))
          rw [← hev]
          clear hK hdeps hbase hev
          simp only [execOp, hec, hef, d51]
          go_simp
        refine ⟨?_, ?_⟩
        · intro a w' hB hsz hbase hdeps K hK
          obtain ⟨ev, hev⟩ : ∃ ev, ev = a.eval := ⟨_, rfl⟩
          have hec : ∀ v, ev (.const v) = v := fun v => by rw [hev]; rfl
          have hef : ∀ f, ev (.func f) = .func (.func f) #[] #[] := fun f => by rw [hev]; rfl
          rw [← hev] at hbase hdeps
          have b1 : ev (.tmp 1) = (.pointer (some ⟨w.heap.size, 0, none⟩)) := (hbase 1 (by kernel_rfl))
          rw [if_pos (wanted_of (j := 8) (b := true) (d := 52) rfl (by kernel_rfl) (by rw [← hev]; exact hdeps 52 (of_decide_eq_true (by kernel_rfl))))]
          left
          refine step_val (v := .pointer (some ⟨w.heap.size, 1, none⟩)) (w' := w') ?_ (hK _ _ (Below.refl _ _) (by intro d hd; cases hd; exact rfl) (by intro d hd hm; cases hd; exact absurd hm (by decide)))
          rw [← hev]
          clear hK hdeps hbase hev
          simp only [execOp, hec, hef, b1]
          go_simp
        refine ⟨?_, ?_⟩
        · intro a w' hB hsz hbase hdeps K hK
          obtain ⟨ev, hev⟩ : ∃ ev, ev = a.eval := ⟨_, rfl⟩
          have hec : ∀ v, ev (.const v) = v := fun v => by rw [hev]; rfl
          have hef : ∀ f, ev (.func f) = .func (.func f) #[] #[] := fun f => by rw [hev]; rfl
          rw [← hev] at hbase hdeps
          have d53 : ev (.tmp 53) = .pointer (some ⟨w.heap.size, 1, none⟩) := hdeps 53 (of_decide_eq_true (by kernel_rfl))
          rw [if_pos (wanted_of (j := 8) (b := true) (d := 52) rfl (by kernel_rfl) (by rw [← hev]; exact hdeps 52 (of_decide_eq_true (by kernel_rfl))))]
          left
          have x0 := (H3.out.1.call hB).cell' (i := 0) rfl
          have x1 := (H3.out.1.call hB).cell' (i := 1) rfl
          have xl := (H3.out.1.call hB).lt
          refine step_val (v := .string t) (w' := w') ?_ (hK _ _ (Below.refl _ _) (by intro d hd; cases hd; exact rfl) (by intro d hd hm; cases hd; exact absurd hm (by decide)))
          rw [← hev]
          clear hK hdeps hbase hev
          simp only [execOp, hec, hef, d53]
          go_simp
        refine ⟨?_, ?_⟩
        · intro a w' hB hsz hbase hdeps K hK
          obtain ⟨ev, hev⟩ : ∃ ev, ev = a.eval := ⟨_, rfl⟩
          have hec : ∀ v, ev (.const v) = v := fun v => by rw [hev]; rfl
          have hef : ∀ f, ev (.func f) = .func (.func f) #[] #[] := fun f => by rw [hev]; rfl
          rw [← hev] at hbase hdeps
          have d54 : ev (.tmp 54) = .string t := hdeps 54 (of_decide_eq_true (by kernel_rfl))
          rw [if_pos (wanted_of (j := 8) (b := true) (d := 52) rfl (by kernel_rfl) (by rw [← hev]; exact hdeps 52 (of_decide_eq_true (by kernel_rfl))))]
          left
          refine step_enter (w' := w') (f := 24) (args := #[.string t]) ?_ ?_
          · rw [← hev]
            clear hK hdeps hbase hev
            simp only [execOp, hec, hef, d54]
            go_simp
          · refine ((by have k := btgt t hzt w'; rw [HG.out] at k; exact k : Calls Tryd.prog 24 #[.string t] w' fun e W' => e = .returned (.int .i64 G) ∧ Below w'.heap.size w' W')).mono ?_
            rintro e W ⟨rfl, hb⟩
            exact ⟨_, rfl, hK _ _ hb (by intro d hd; cases hd; exact rfl) (by intro d hd hm; cases hd; exact absurd hm (by decide))⟩
        refine ⟨?_, ?_⟩
        · intro a w' hB hsz hbase hdeps K hK
          obtain ⟨ev, hev⟩ : ∃ ev, ev = a.eval := ⟨_, rfl⟩
          have hec : ∀ v, ev (.const v) = v := fun v => by rw [hev]; rfl
          have hef : ∀ f, ev (.func f) = .func (.func f) #[] #[] := fun f => by rw [hev]; rfl
          rw [← hev] at hbase hdeps
          have b1 : ev (.tmp 1) = (.pointer (some ⟨w.heap.size, 0, none⟩)) := (hbase 1 (by kernel_rfl))
          rw [if_pos (wanted_of (j := 8) (b := true) (d := 52) rfl (by kernel_rfl) (by rw [← hev]; exact hdeps 52 (of_decide_eq_true (by kernel_rfl))))]
          left
          refine step_val (v := .pointer (some ⟨w.heap.size, 1, none⟩)) (w' := w') ?_ (hK _ _ (Below.refl _ _) (by intro d hd; cases hd; exact rfl) (by intro d hd hm; cases hd; exact absurd hm (by decide)))
          rw [← hev]
          clear hK hdeps hbase hev
          simp only [execOp, hec, hef, b1]
          go_simp
        refine ⟨?_, ?_⟩
        · intro a w' hB hsz hbase hdeps K hK
          obtain ⟨ev, hev⟩ : ∃ ev, ev = a.eval := ⟨_, rfl⟩
          have hec : ∀ v, ev (.const v) = v := fun v => by rw [hev]; rfl
          have hef : ∀ f, ev (.func f) = .func (.func f) #[] #[] := fun f => by rw [hev]; rfl
          rw [← hev] at hbase hdeps
          have d56 : ev (.tmp 56) = .pointer (some ⟨w.heap.size, 1, none⟩) := hdeps 56 (of_decide_eq_true (by kernel_rfl))
          rw [if_pos (wanted_of (j := 8) (b := true) (d := 52) rfl (by kernel_rfl) (by rw [← hev]; exact hdeps 52 (of_decide_eq_true (by kernel_rfl))))]
          left
          have x0 := (H3.out.1.call hB).cell' (i := 0) rfl
          have x1 := (H3.out.1.call hB).cell' (i := 1) rfl
          have xl := (H3.out.1.call hB).lt
          refine step_val (v := .string t) (w' := w') ?_ (hK _ _ (Below.refl _ _) (by intro d hd; cases hd; exact rfl) (by intro d hd hm; cases hd; exact absurd hm (by decide)))
          rw [← hev]
          clear hK hdeps hbase hev
          simp only [execOp, hec, hef, d56]
          go_simp
        refine ⟨?_, ?_⟩
        · intro a w' hB hsz hbase hdeps K hK
          obtain ⟨ev, hev⟩ : ∃ ev, ev = a.eval := ⟨_, rfl⟩
          have hec : ∀ v, ev (.const v) = v := fun v => by rw [hev]; rfl
          have hef : ∀ f, ev (.func f) = .func (.func f) #[] #[] := fun f => by rw [hev]; rfl
          rw [← hev] at hbase hdeps
          have d57 : ev (.tmp 57) = .string t := hdeps 57 (of_decide_eq_true (by kernel_rfl))
          rw [if_pos (wanted_of (j := 8) (b := true) (d := 52) rfl (by kernel_rfl) (by rw [← hev]; exact hdeps 52 (of_decide_eq_true (by kernel_rfl))))]
          left
          refine step_enter (w' := w') (f := 25) (args := #[.string t]) ?_ ?_
          · rw [← hev]
            clear hK hdeps hbase hev
            simp only [execOp, hec, hef, d57]
            go_simp
          · refine ((by have k := rtgt t hzt w'; rw [HG.out] at k; exact k : Calls Tryd.prog 25 #[.string t] w' fun e W' => e = .returned (.int .i64 G) ∧ w' = W')).mono ?_
            rintro e W ⟨rfl, rfl⟩
            exact ⟨_, rfl, hK _ _ (Below.refl _ _) (by intro d hd; cases hd; exact rfl) (by intro d hd hm; cases hd; exact absurd hm (by decide))⟩
        refine ⟨?_, ?_⟩
        · intro a w' hB hsz hbase hdeps K hK
          obtain ⟨ev, hev⟩ : ∃ ev, ev = a.eval := ⟨_, rfl⟩
          have hec : ∀ v, ev (.const v) = v := fun v => by rw [hev]; rfl
          have hef : ∀ f, ev (.func f) = .func (.func f) #[] #[] := fun f => by rw [hev]; rfl
          rw [← hev] at hbase hdeps
          have d55 : ev (.tmp 55) = .int .i64 G := hdeps 55 (of_decide_eq_true (by kernel_rfl))
          have d58 : ev (.tmp 58) = .int .i64 G := hdeps 58 (of_decide_eq_true (by kernel_rfl))
          rw [if_pos (wanted_of (j := 8) (b := true) (d := 52) rfl (by kernel_rfl) (by rw [← hev]; exact hdeps 52 (of_decide_eq_true (by kernel_rfl))))]
          left
          refine step_val (v := .bool true) (w' := w') ?_ (hK _ _ (Below.refl _ _) (by intro d hd; cases hd; exact rfl) (by intro d hd hm; cases hd; exact absurd hm (by decide)))
          rw [← hev]
          clear hK hdeps hbase hev
          simp only [execOp, hec, hef, d55, d58]
          go_simp
        refine ⟨?_, ?_⟩
        · intro a w' hB hsz hbase hdeps K hK
          obtain ⟨ev, hev⟩ : ∃ ev, ev = a.eval := ⟨_, rfl⟩
          have hec : ∀ v, ev (.const v) = v := fun v => by rw [hev]; rfl
          have hef : ∀ f, ev (.func f) = .func (.func f) #[] #[] := fun f => by rw [hev]; rfl
          rw [← hev] at hbase hdeps
          have d52 : ev (.tmp 52) = .bool true := hdeps 52 (of_decide_eq_true (by kernel_rfl))
          have d59 : ev (.tmp 59) = .bool true := hdeps 59 (of_decide_eq_true (by kernel_rfl))
          rw [if_pos (by kernel_rfl)]
          left
          refine step_val (v := .bool true) (w' := w') ?_ (hK _ _ (Below.refl _ _) (by intro d hd; cases hd; exact rfl) (by intro d hd hm; cases hd; exact absurd hm (by decide)))
          rw [← hev]
          clear hK hdeps hbase hev
          simp only [execOp, hec, hef, d52, d59]
          go_simp
        refine ⟨?_, ?_⟩
        · intro a w' hB hsz hbase hdeps K hK
          obtain ⟨ev, hev⟩ : ∃ ev, ev = a.eval := ⟨_, rfl⟩
          have hec : ∀ v, ev (.const v) = v := fun v => by rw [hev]; rfl
          have hef : ∀ f, ev (.func f) = .func (.func f) #[] #[] := fun f => by rw [hev]; rfl
          rw [← hev] at hbase hdeps
          have d60 : ev (.tmp 60) = .bool true := hdeps 60 (of_decide_eq_true (by kernel_rfl))
          rw [if_pos (by kernel_rfl)]
          left
          refine step_val (v := .bool true) (w' := w') ?_ (hK _ _ (Below.refl _ _) (by intro d hd; cases hd; exact rfl) (by intro d hd hm; cases hd; exact absurd hm (by decide)))
          rw [← hev]
          clear hK hdeps hbase hev
          simp only [execOp, hec, hef, d60]
          go_simp
        refine ⟨?_, ?_⟩
        · intro a w' hB hsz hbase hdeps K hK
          obtain ⟨ev, hev⟩ : ∃ ev, ev = a.eval := ⟨_, rfl⟩
          have hec : ∀ v, ev (.const v) = v := fun v => by rw [hev]; rfl
          have hef : ∀ f, ev (.func f) = .func (.func f) #[] #[] := fun f => by rw [hev]; rfl
          rw [← hev] at hbase hdeps
          have b7 : ev (.tmp 7) = .int .i64 kn := (hbase 7 (by kernel_rfl))
          rw [if_pos (wanted_of (j := 17) (b := true) (d := 61) rfl (by kernel_rfl) (by rw [← hev]; exact hdeps 61 (of_decide_eq_true (by kernel_rfl))))]
          left
          refine step_val (v := .int .i64 kn) (w' := w') ?_ (hK _ _ (Below.refl _ _) (by intro d hd; cases hd; exact rfl) (by intro d hd hm; cases hd; exact absurd hm (by decide)))
          rw [← hev]
          clear hK hdeps hbase hev
          simp only [execOp, hec, hef, b7]
          go_simp
        refine ⟨?_, ?_⟩
        · intro a w' hB hsz hbase hdeps K hK
          obtain ⟨ev, hev⟩ : ∃ ev, ev = a.eval := ⟨_, rfl⟩
          have hec : ∀ v, ev (.const v) = v := fun v => by rw [hev]; rfl
          have hef : ∀ f, ev (.func f) = .func (.func f) #[] #[] := fun f => by rw [hev]; rfl
          rw [← hev] at hbase hdeps
          have b9 : ev (.tmp 9) = .int .i64 kn := (hbase 9 (by kernel_rfl))
          rw [if_pos (wanted_of (j := 17) (b := true) (d := 61) rfl (by kernel_rfl) (by rw [← hev]; exact hdeps 61 (of_decide_eq_true (by kernel_rfl))))]
          left
          refine step_val (v := .int .i64 kn) (w' := w') ?_ (hK _ _ (Below.refl _ _) (by intro d hd; cases hd; exact rfl) (by intro d hd hm; cases hd; exact absurd hm (by decide)))
          rw [← hev]
          clear hK hdeps hbase hev
          simp only [execOp, hec, hef, b9]
          go_simp
        refine ⟨?_, ?_⟩
        · intro a w' hB hsz hbase hdeps K hK
          obtain ⟨ev, hev⟩ : ∃ ev, ev = a.eval := ⟨_, rfl⟩
          have hec : ∀ v, ev (.const v) = v := fun v => by rw [hev]; rfl
          have hef : ∀ f, ev (.func f) = .func (.func f) #[] #[] := fun f => by rw [hev]; rfl
          rw [← hev] at hbase hdeps
          have d62 : ev (.tmp 62) = .int .i64 kn := hdeps 62 (of_decide_eq_true (by kernel_rfl))
          have d63 : ev (.tmp 63) = .int .i64 kn := hdeps 63 (of_decide_eq_true (by kernel_rfl))
          rw [if_pos (wanted_of (j := 17) (b := true) (d := 61) rfl (by kernel_rfl) (by rw [← hev]; exact hdeps 61 (of_decide_eq_true (by kernel_rfl))))]
          left
          refine step_val (v := .bool true) (w' := w') ?_ (hK _ _ (Below.refl _ _) (by intro d hd; cases hd; exact rfl) (by intro d hd hm; cases hd; exact absurd hm (by decide)))
          rw [← hev]
          clear hK hdeps hbase hev
          simp only [execOp, hec, hef, d62, d63]
          go_simp
        refine ⟨?_, ?_⟩
        · intro a w' hB hsz hbase hdeps K hK
          obtain ⟨ev, hev⟩ : ∃ ev, ev = a.eval := ⟨_, rfl⟩
          have hec : ∀ v, ev (.const v) = v := fun v => by rw [hev]; rfl
          have hef : ∀ f, ev (.func f) = .func (.func f) #[] #[] := fun f => by rw [hev]; rfl
          rw [← hev] at hbase hdeps
          have d61 : ev (.tmp 61) = .bool true := hdeps 61 (of_decide_eq_true (by kernel_rfl))
          have d64 : ev (.tmp 64) = .bool true := hdeps 64 (of_decide_eq_true (by kernel_rfl))
          rw [if_pos (by kernel_rfl)]
          left
          refine step_val (v := .bool true) (w' := w') ?_ (hK _ _ (Below.refl _ _) (by intro d hd; cases hd; exact rfl) (by intro d hd hm; cases hd; exact absurd hm (by decide)))
          rw [← hev]
          clear hK hdeps hbase hev
          simp only [execOp, hec, hef, d61, d64]
          go_simp
        refine ⟨?_, ?_⟩
        · intro a w' hB hsz hbase hdeps K hK
          obtain ⟨ev, hev⟩ : ∃ ev, ev = a.eval := ⟨_, rfl⟩
          have hec : ∀ v, ev (.const v) = v := fun v => by rw [hev]; rfl
          have hef : ∀ f, ev (.func f) = .func (.func f) #[] #[] := fun f => by rw [hev]; rfl
          rw [← hev] at hbase hdeps
          have d65 : ev (.tmp 65) = .bool true := hdeps 65 (of_decide_eq_true (by kernel_rfl))
          rw [if_pos (by kernel_rfl)]
          left
          refine step_val (v := .bool true) (w' := w') ?_ (hK _ _ (Below.refl _ _) (by intro d hd; cases hd; exact rfl) (by intro d hd hm; cases hd; exact absurd hm (by decide)))
          rw [← hev]
          clear hK hdeps hbase hev
          simp only [execOp, hec, hef, d65]
          go_simp
        refine ⟨?_, ?_⟩
        · intro a w' hB hsz hbase hdeps K hK
          obtain ⟨ev, hev⟩ : ∃ ev, ev = a.eval := ⟨_, rfl⟩
          have hec : ∀ v, ev (.const v) = v := fun v => by rw [hev]; rfl
          have hef : ∀ f, ev (.func f) = .func (.func f) #[] #[] := fun f => by rw [hev]; rfl
          rw [← hev] at hbase hdeps
          have b8 : ev (.tmp 8) = .bool B := (hbase 8 (by kernel_rfl))
          rw [if_pos (wanted_of (j := 22) (b := true) (d := 66) rfl (by kernel_rfl) (by rw [← hev]; exact hdeps 66 (of_decide_eq_true (by kernel_rfl))))]
          left
          refine step_val (v := .bool B) (w' := w') ?_ (hK _ _ (Below.refl _ _) (by intro d hd; cases hd; exact rfl) (by intro d hd hm; cases hd; exact absurd hm (by decide)))
          rw [← hev]
          clear hK hdeps hbase hev
          simp only [execOp, hec, hef, b8]
          go_simp
        refine ⟨?_, ?_⟩
        · intro a w' hB hsz hbase hdeps K hK
          obtain ⟨ev, hev⟩ : ∃ ev, ev = a.eval := ⟨_, rfl⟩
          have hec : ∀ v, ev (.const v) = v := fun v => by rw [hev]; rfl
          have hef : ∀ f, ev (.func f) = .func (.func f) #[] #[] := fun f => by rw [hev]; rfl
          rw [← hev] at hbase hdeps
          have b10 : ev (.tmp 10) = .bool B := (hbase 10 (by kernel_rfl))
          rw [if_pos (wanted_of (j := 22) (b := true) (d := 66) rfl (by kernel_rfl) (by rw [← hev]; exact hdeps 66 (of_decide_eq_true (by kernel_rfl))))]
          left
          refine step_val (v := .bool B) (w' := w') ?_ (hK _ _ (Below.refl _ _) (by intro d hd; cases hd; exact rfl) (by intro d hd hm; cases hd; exact absurd hm (by decide)))
          rw [← hev]
          clear hK hdeps hbase hev
          simp only [execOp, hec, hef, b10]
          go_simp
        refine ⟨?_, ?_⟩
        · intro a w' hB hsz hbase hdeps K hK
          obtain ⟨ev, hev⟩ : ∃ ev, ev = a.eval := ⟨_, rfl⟩
          have hec : ∀ v, ev (.const v) = v := fun v => by rw [hev]; rfl
          have hef : ∀ f, ev (.func f) = .func (.func f) #[] #[] := fun f => by rw [hev]; rfl
          rw [← hev] at hbase hdeps
          have d67 : ev (.tmp 67) = .bool B := hdeps 67 (of_decide_eq_true (by kernel_rfl))
          have d68 : ev (.tmp 68) = .bool B := hdeps 68 (of_decide_eq_true (by kernel_rfl))
          rw [if_pos (wanted_of (j := 22) (b := true) (d := 66) rfl (by kernel_rfl) (by rw [← hev]; exact hdeps 66 (of_decide_eq_true (by kernel_rfl))))]
          left
          refine step_val (v := .bool true) (w' := w') ?_ (hK _ _ (Below.refl _ _) (by intro d hd; cases hd; exact rfl) (by intro d hd hm; cases hd; exact absurd hm (by decide)))
          rw [← hev]
          clear hK hdeps hbase hev
          simp only [execOp, hec, hef, d67, d68]
          go_simp
        refine ⟨?_, ?_⟩
        · intro a w' hB hsz hbase hdeps K hK
          obtain ⟨ev, hev⟩ : ∃ ev, ev = a.eval := ⟨_, rfl⟩
          have hec : ∀ v, ev (.const v) = v := fun v => by rw [hev]; rfl
          have hef : ∀ f, ev (.func f) = .func (.func f) #[] #[] := fun f => by rw [hev]; rfl
          rw [← hev] at hbase hdeps
          have d66 : ev (.tmp 66) = .bool true := hdeps 66 (of_decide_eq_true (by kernel_rfl))
          have d69 : ev (.tmp 69) = .bool true := hdeps 69 (of_decide_eq_true (by kernel_rfl))
          rw [if_pos (by kernel_rfl)]
          left
          refine step_val (v := .bool true) (w' := w') ?_ (hK _ _ (Below.refl _ _) (by intro d hd; cases hd; exact rfl) (by intro d hd hm; cases hd; exact absurd hm (by decide)))
          rw [← hev]
          clear hK hdeps hbase hev
          simp only [execOp, hec, hef, d66, d69]
          go_simp
        refine ⟨?_, ?_⟩
        · intro a w' hB hsz hbase hdeps K hK
          obtain ⟨ev, hev⟩ : ∃ ev, ev = a.eval := ⟨_, rfl⟩
          have hec : ∀ v, ev (.const v) = v := fun v => by rw [hev]; rfl
          have hef : ∀ f, ev (.func f) = .func (.func f) #[] #[] := fun f => by rw [hev]; rfl
          rw [← hev] at hbase hdeps
          have d70 : ev (.tmp 70) = .bool true := hdeps 70 (of_decide_eq_true (by kernel_rfl))
          rw [if_pos (by kernel_rfl)]
          left
          refine step_val (v := .bool true) (w' := w') ?_ (hK _ _ (Below.refl _ _) (by intro d hd; cases hd; exact rfl) (by intro d hd hm; cases hd; exact absurd hm (by decide)))
          rw [← hev]
          clear hK hdeps hbase hev
          simp only [execOp, hec, hef, d70]
          go_simp
        refine ⟨?_, ?_⟩
        · intro a w' hB hsz hbase hdeps K hK
          obtain ⟨ev, hev⟩ : ∃ ev, ev = a.eval := ⟨_, rfl⟩
          have hec : ∀ v, ev (.const v) = v := fun v => by rw [hev]; rfl
          have hef : ∀ f, ev (.func f) = .func (.func f) #[] #[] := fun f => by rw [hev]; rfl
          rw [← hev] at hbase hdeps
          rw [if_pos (wanted_of (j := 27) (b := true) (d := 71) rfl (by kernel_rfl) (by rw [← hev]; exact hdeps 71 (of_decide_eq_true (by kernel_rfl))))]
          left
          refine step_enter (w' := w') (f := 11) (args := #[]) ?_ ?_
          · rw [← hev]
            clear hK hdeps hbase hev
            simp only [execOp, hec, hef]
            go_simp
          · refine (awake w' (HM.out.below (gr_call H3.out.2 hB))).mono ?_
            rintro e W ⟨rfl, hb⟩
            exact ⟨_, rfl, hK _ _ hb (by intro d hd; cases hd; exact rfl) (by intro d hd hm; cases hd; exact absurd hm (by decide))⟩
        refine ⟨?_, ?_⟩
        · intro a w' hB hsz hbase hdeps K hK
          obtain ⟨ev, hev⟩ : ∃ ev, ev = a.eval := ⟨_, rfl⟩
          have hec : ∀ v, ev (.const v) = v := fun v => by rw [hev]; rfl
          have hef : ∀ f, ev (.func f) = .func (.func f) #[] #[] := fun f => by rw [hev]; rfl
          rw [← hev] at hbase hdeps
          have d71 : ev (.tmp 71) = .bool true := hdeps 71 (of_decide_eq_true (by kernel_rfl))
          have d72 : ev (.tmp 72) = .bool true := hdeps 72 (of_decide_eq_true (by kernel_rfl))
          rw [if_pos (by kernel_rfl)]
          left
          refine step_val (v := .bool true) (w' := w') ?_ (hK _ _ (Below.refl _ _) (by intro d hd; cases hd; exact rfl) (by intro d hd hm; cases hd; exact absurd hm (by decide)))
          rw [← hev]
          clear hK hdeps hbase hev
          simp only [execOp, hec, hef, d71, d72]
          go_simp
        refine ⟨?_, ?_⟩
        · intro a w' hB hsz hbase hdeps K hK
          obtain ⟨ev, hev⟩ : ∃ ev, ev = a.eval := ⟨_, rfl⟩
          have hec : ∀ v, ev (.const v) = v := fun v => by rw [hev]; rfl
          have hef : ∀ f, ev (.func f) = .func (.func f) #[] #[] := fun f => by rw [hev]; rfl
          rw [← hev] at hbase hdeps
          have d73 : ev (.tmp 73) = .bool true := hdeps 73 (of_decide_eq_true (by kernel_rfl))
          rw [if_pos (by kernel_rfl)]
          left
          refine step_val (v := .bool true) (w' := w') ?_ (hK _ _ (Below.refl _ _) (by intro d hd; cases hd; exact rfl) (by intro d hd hm; cases hd; exact absurd hm (by decide)))
          rw [← hev]
          clear hK hdeps hbase hev
          simp only [execOp, hec, hef, d73]
          go_simp
        exact trivial

      case fin =>
        intro a x hB hsz hdef hbase hS _
        have v44 : a.eval (.tmp 44) = .string T := hS _ (List.mem_of_getElem? (i := 0) rfl) 44 rfl
        have v45 : a.eval (.tmp 45) = .string T := hS _ (List.mem_of_getElem? (i := 1) rfl) 45 rfl
        have v46 : a.eval (.tmp 46) = .bool true := hS _ (List.mem_of_getElem? (i := 2) rfl) 46 rfl
        have v47 : a.eval (.tmp 47) = .bool true := hS _ (List.mem_of_getElem? (i := 3) rfl) 47 rfl
        have v48 : a.eval (.tmp 48) = .int .i64 E := hS _ (List.mem_of_getElem? (i := 4) rfl) 48 rfl
        have v49 : a.eval (.tmp 49) = .int .i64 E := hS _ (List.mem_of_getElem? (i := 5) rfl) 49 rfl
        have v50 : a.eval (.tmp 50) = .bool true := hS _ (List.mem_of_getElem? (i := 6) rfl) 50 rfl
        have v51 : a.eval (.tmp 51) = .bool true := hS _ (List.mem_of_getElem? (i := 7) rfl) 51 rfl
        have v52 : a.eval (.tmp 52) = .bool true := hS _ (List.mem_of_getElem? (i := 8) rfl) 52 rfl
        have v53 : a.eval (.tmp 53) = .pointer (some ⟨w.heap.size, 1, none⟩) := hS _ (List.mem_of_getElem? (i := 9) rfl) 53 rfl
        have v54 : a.eval (.tmp 54) = .string t := hS _ (List.mem_of_getElem? (i := 10) rfl) 54 rfl
        have v55 : a.eval (.tmp 55) = .int .i64 G := hS _ (List.mem_of_getElem? (i := 11) rfl) 55 rfl
        have v56 : a.eval (.tmp 56) = .pointer (some ⟨w.heap.size, 1, none⟩) := hS _ (List.mem_of_getElem? (i := 12) rfl) 56 rfl
        have v57 : a.eval (.tmp 57) = .string t := hS _ (List.mem_of_getElem? (i := 13) rfl) 57 rfl
        have v58 : a.eval (.tmp 58) = .int .i64 G := hS _ (List.mem_of_getElem? (i := 14) rfl) 58 rfl
        have v59 : a.eval (.tmp 59) = .bool true := hS _ (List.mem_of_getElem? (i := 15) rfl) 59 rfl
        have v60 : a.eval (.tmp 60) = .bool true := hS _ (List.mem_of_getElem? (i := 16) rfl) 60 rfl
        have v61 : a.eval (.tmp 61) = .bool true := hS _ (List.mem_of_getElem? (i := 17) rfl) 61 rfl
        have v62 : a.eval (.tmp 62) = .int .i64 kn := hS _ (List.mem_of_getElem? (i := 18) rfl) 62 rfl
        have v63 : a.eval (.tmp 63) = .int .i64 kn := hS _ (List.mem_of_getElem? (i := 19) rfl) 63 rfl
        have v64 : a.eval (.tmp 64) = .bool true := hS _ (List.mem_of_getElem? (i := 20) rfl) 64 rfl
        have v65 : a.eval (.tmp 65) = .bool true := hS _ (List.mem_of_getElem? (i := 21) rfl) 65 rfl
        have v66 : a.eval (.tmp 66) = .bool true := hS _ (List.mem_of_getElem? (i := 22) rfl) 66 rfl
        have v67 : a.eval (.tmp 67) = .bool B := hS _ (List.mem_of_getElem? (i := 23) rfl) 67 rfl
        have v68 : a.eval (.tmp 68) = .bool B := hS _ (List.mem_of_getElem? (i := 24) rfl) 68 rfl
        have v69 : a.eval (.tmp 69) = .bool true := hS _ (List.mem_of_getElem? (i := 25) rfl) 69 rfl
        have v70 : a.eval (.tmp 70) = .bool true := hS _ (List.mem_of_getElem? (i := 26) rfl) 70 rfl
        have v71 : a.eval (.tmp 71) = .bool true := hS _ (List.mem_of_getElem? (i := 27) rfl) 71 rfl
        have v72 : a.eval (.tmp 72) = .bool true := hS _ (List.mem_of_getElem? (i := 28) rfl) 72 rfl
        have v73 : a.eval (.tmp 73) = .bool true := hS _ (List.mem_of_getElem? (i := 29) rfl) 73 rfl
        have v2 : a.eval (.tmp 2) = .bool true := hS _ (List.mem_of_getElem? (i := 30) rfl) 2 rfl
        have ha := act_over [(44, .string T), (45, .string T), (46, .bool true), (47, .bool true), (48, .int .i64 E), (49, .int .i64 E), (50, .bool true), (51, .bool true), (52, .bool true), (53, .pointer (some ⟨w.heap.size, 1, none⟩)), (54, .string t), (55, .int .i64 G), (56, .pointer (some ⟨w.heap.size, 1, none⟩)), (57, .string t), (58, .int .i64 G), (59, .bool true), (60, .bool true), (61, .bool true), (62, .int .i64 kn), (63, .int .i64 kn), (64, .bool true), (65, .bool true), (66, .bool true), (67, .bool B), (68, .bool B), (69, .bool true), (70, .bool true), (71, .bool true), (72, .bool true), (73, .bool true), (2, .bool true)] hsz hdef hbase (by kernel_rfl) ⟨v44, v45, v46, v47, v48, v49, v50, v51, v52, v53, v54, v55, v56, v57, v58, v59, v60, v61, v62, v63, v64, v65, v66, v67, v68, v69, v70, v71, v72, v73, v2, trivial⟩
        clear hsz hdef hbase hS v44 v45 v46 v47 v48 v49 v50 v51 v52 v53 v54 v55 v56 v57 v58 v59 v60 v61 v62 v63 v64 v65 v66 v67 v68 v69 v70 v71 v72 v73 v2
        subst ha
        simp only [List.drop, putAll]
        have zX := Lib.hid (gr_call H3.out.2 hB)
        clear hB
        refine wpList_nil ?_
        simp (config := {decide := false}) only [Act.put, List.setIfInBounds_toArray, List.set_cons_zero, List.set_cons_succ]
        go_wp2_with (fail)
        go_ret
        exact ⟨rfl, zX.out⟩
end Go.Proofs.YtllhcfgddcjfkaaDoor
