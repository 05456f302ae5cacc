/-
  RowWritten, walked: it returns true, whatever the input; condition: the variable ErrSyntax holds an interface value.
-/
import Derived.Test.YtpicenopiigfpaaDoorRwV
import Derived.Test.YtpicenopiigfpaaDoorInw
namespace Go.Proofs.YtpicenopiigfpaaDoor
open Go.RowKit
set_option linter.unusedVariables false
set_option linter.unusedSimpArgs false

theorem words_one {W : World} {g : Nat} {d : Wd} (h : Blk W g 41 #[.int .i64 (d.a : Int), .string d.t, .bool d.q]) : WordsIn W (.slice (some ⟨g, 0, none⟩) 1 1) [d] :=
  ⟨_, _, rfl, fun h => (by cases h), fun _ => ⟨g, 0, rfl, h.lt, fun i j hi hj => by
    obtain rfl : i = 0 := by simp at hi; omega
    match j, hj with
    | 0, _ => exact h.cell' rfl
    | 1, _ => exact h.cell' rfl
    | 2, _ => exact h.cell' rfl⟩⟩
theorem row_one {W : World} {v : Value} {a : Nat} {d : Wd} (h : RowsIn W v [⟨a, [d]⟩]) :
    ∃ ab ao c B e, v = .slice (some ⟨ab, ao, none⟩) 1 c ∧ ab < W.heap.size ∧ W.cell? ⟨ab, ao + 1, none⟩ = some (.slice B 1 e) ∧ WordsIn W (.slice B 1 e) [d] := by
  obtain ⟨A, c, vs, rfl, _, hA, hvs, hin⟩ := h
  match vs, hvs with
  | [u], _ =>
    obtain ⟨ab, ao, rfl, hlt, _, c1⟩ := cells_rw hA (k := 0) rfl rfl
    have hw := hin 0 _ u rfl rfl
    obtain ⟨B, e, rfl, h2, h3⟩ := hw
    exact ⟨ab, ao, c, B, e, rfl, hlt, by simpa using c1, B, e, rfl, h2, h3⟩
theorem beq_wr (s : ByteArray) : ((mkB (wrW s.data.toList)).toList == s.toList) = bareW s.data.toList := by
  rw [str_beq, Bool.eq_iff_iff, decide_eq_true_eq]
  constructor
  · intro h
    refine (wrW_same _).1 ?_
    have := congrArg (fun x : ByteArray => x.data.toList) h
    simpa [mkB_data] using this
  · intro h
    rw [(wrW_same _).2 h, mkB_of]
theorem beq_wr2 (s t : ByteArray) : ((mkB (wrW s.data.toList)).toList == (mkB (wrW t.data.toList)).toList) = (s.toList == t.toList) := by
  rw [str_beq, str_beq, Bool.eq_iff_iff, decide_eq_true_eq, decide_eq_true_eq]
  constructor
  · intro h
    exact str_ext (wrW_inj (mkB_inj.1 h))
  · intro h
    rw [h]

set_option maxRecDepth 100000 in
set_option maxHeartbeats 8000000 in
theorem law_written (s t : ByteArray) (ws : s.size ≤ 9223372036854775807) (wt : t.size ≤ 9223372036854775807) (w : World) (hE : ErrV w 0) :
    Calls Tryd.prog 5 #[.string s, .string t] w fun e W' => e = .returned (.bool true) ∧ Below w.heap.size w W' := by
  by_cases h0 : 200 < s.size ∨ 200 < t.size
  · have HE := Lib.hid hE
    clear hE
    rcases (show (200 : Int) < s.size ∨ (¬ (200 : Int) < s.size ∧ (200 : Int) < t.size) by omega) with h | ⟨h, h'⟩
    all_goals
      clear h0
      go_enter Tryd.func5, Tryd.ntmps5
      go_wp2_with (fail)
      refine (lawake _ HE.out).mono ?_
      rintro e W1 ⟨rfl, h1⟩
      have H1 := Lib.hid h1
      clear h1
      go_wp2_with (fail)
      go_ret
      exact ⟨rfl, H1.out⟩
  · have h1 : ¬ (200 : Int) < s.size := by omega
    have h2 : ¬ (200 : Int) < t.size := by omega
    obtain ⟨sx, hx⟩ : ∃ x, x = mkB (wrW s.data.toList) := ⟨_, rfl⟩
    obtain ⟨y, hy⟩ : ∃ y, y = mkB (wrW t.data.toList) := ⟨_, rfl⟩
    obtain ⟨bw, hbw⟩ : ∃ b, b = bareW s.data.toList := ⟨_, rfl⟩
    obtain ⟨st, hst⟩ : ∃ b, b = (s.toList == t.toList) := ⟨_, rfl⟩
    have c1 := fun W => wBare s W (by omega)
    have c2 := fun W => wWrite t W (by omega)
    have c3 := fun W => wWrite s W (by omega)
    have e1 := beq_wr s
    have e2 := beq_wr2 s t
    have hl := wrW_len s.data.toList
    rw [size_data] at hl
    have hxs : sx.size ≤ 1000 := by rw [hx, mkB_size]; omega
    have hr := written_law s.data.toList (by rw [size_data]; omega)
    have c4 := fun W hE => wrows sx (by omega) W hE
    rw [hx, mkB_data, hr, ← hx, mkB_of, ← hbw] at c4
    rw [← hx] at c3 e1 e2
    rw [← hy] at c2 e2
    rw [← hbw] at c1 e1
    rw [← hst] at e2
    have HC := Lib.hid (And.intro c1 (And.intro c2 (And.intro e1 (And.intro hst.symm (And.intro e2 (And.intro c3 hE))))))
    have H4 := Lib.hid c4
    clear c1 c2 c3 c4 e1 e2 hr hl hbw hst hx hy hE h0
    go_enter Tryd.func5, Tryd.ntmps5
    go_wp2_with (fail)
    refine (HC.out.2.2.2.2.2.1 _).mono ?_
    rintro e W1 ⟨rfl, g1⟩
    have H1 := Lib.hid (And.intro g1 (HC.out.2.2.2.2.2.2.below g1 HC.out.2.2.2.2.2.2.lt))
    clear g1
    go_wp2_with (fail)
    refine (H4.out _ H1.out.2).mono ?_
    rintro e W2 ⟨v, rfl, ho, g2⟩
    obtain ⟨ab, ao, c, B, cd, rfl, hlt, hcell, hwi⟩ := row_one ho.in_
    have HF := Lib.hid (And.intro (Blk.new W2 26 #[.int .i64 0, .int .i64 0]) (And.intro (show ab < (W2.alloc (.cells #[.int .i64 0, .int .i64 0] 26)).heap.size by simp; omega) (And.intro (show (W2.alloc (.cells #[.int .i64 0, .int .i64 0] 26)).cell? ⟨ab, ao + 1, none⟩ = some (.slice B 1 cd) from ((bcell (gr_alloc (Below.refl _ _) _)).1 _ _ hlt).trans hcell) (And.intro (hwi.below (gr_alloc (Below.refl _ _) (.cells #[.int .i64 0, .int .i64 0] 26))) (gr_alloc (gr_call H1.out.1 g2) (.cells #[.int .i64 0, .int .i64 0] 26))))))
    clear ho g2 hlt hcell hwi
    go_wp2_with (fail)
    refine wp_region_late 43 [] (fun d x v => match d with
      | 24 => v = .agg #[.int .i64 0, .int .i64 0]
      | 25 => v = .agg #[.int .i64 0, .int .i64 0]
      | 28 => v = (.slice (some ⟨ab, ao, none⟩) 1 c)
      | 29 => v = .int .i64 1
      | 33 => v = (.slice (some ⟨ab, ao, none⟩) 1 c)
      | 34 => v = (.pointer (some ⟨ab, ao, none⟩))
      | 35 => v = (.pointer (some ⟨ab, ao + 1, none⟩))
      | 36 => v = (.slice B 1 cd)
      | 37 => v = .string s
      | 38 => v = .string s
      | 39 => v = .bool bw
      | 40 => v = .bool (!bw)
      | 41 => v = .agg #[.int .i64 0, .string s, .bool (!bw)]
      | 42 => ∃ g, v = .slice (some ⟨g, 0, none⟩) 1 1 ∧ Blk x g 41 #[.int .i64 0, .string s, .bool (!bw)]
      | 46 => v = .string s
      | 47 => v = .bool bw
      | 48 => v = .string sx
      | 49 => v = .string s
      | 50 => v = .bool bw
      | 54 => v = .string s
      | 55 => v = .string t
      | 56 => v = .bool st
      | 57 => v = .string sx
      | 58 => v = .string t
      | 59 => v = .string y
      | 60 => v = .bool st
      | _ => v = .bool true) (by kernel_rfl) (by kernel_rfl) (by kernel_rfl) (by kernel_rfl) (by decide) ?stable ?dist ?steps ?fin
    case stable =>
      intro d x x' v hB h
      revert h
      split <;> intro h <;> first
        | exact h
        | (obtain ⟨g, h1, h2⟩ := h
           exact ⟨g, h1, h2.call hB⟩)
    case dist =>
      intro d hd
      cases hd
    case steps =>
      refine ⟨?_, ?_⟩
      · intro a w' hB hsz hbase hdeps K hK
        obtain ⟨ev, hev⟩ : ∃ ev, ev = a.eval := ⟨_, rfl⟩
        have hec : ∀ v, ev (.const v) = v := fun v => by rw [hev]; rfl
        have hef : ∀ f, ev (.func f) = .func (.func f) #[] #[] := fun f => by rw [hev]; rfl
        rw [← hev] at hbase hdeps
        have b7 : ev (.tmp 7) = (.pointer (some ⟨W2.heap.size, 0, none⟩)) := (hbase 7 (by kernel_rfl))
        rw [if_pos (by kernel_rfl)]
        left
        have x0 : w'.cell? ⟨W2.heap.size, 0, none⟩ = some (.int .i64 0) := (HF.out.1.call hB).cell' rfl
        have x1 : w'.cell? ⟨W2.heap.size, 1, none⟩ = some (.int .i64 0) := (HF.out.1.call hB).cell' rfl
        have xl := (HF.out.1.call hB).lt
        have x2 : w'.cell? ⟨ab, ao + 1, none⟩ = some (.slice B 1 cd) := ((bcell hB).1 _ _ HF.out.2.1).trans HF.out.2.2.1
        have xa : ab < w'.heap.size := Nat.lt_of_lt_of_le HF.out.2.1 hB.size
        refine step_val (v := .agg #[.int .i64 0, .int .i64 0]) (w' := w') ?_ (hK _ _ (Below.refl _ _) (by intro d hd; cases hd; exact rfl) (by intro d hd hm; cases hd; exact absurd hm (by decide)))
        rw [← hev]
        clear hK hdeps hbase hev
        simp only [execOp, hec, hef, b7]
        go_simp
      refine ⟨?_, ?_⟩
      · intro a w' hB hsz hbase hdeps K hK
        obtain ⟨ev, hev⟩ : ∃ ev, ev = a.eval := ⟨_, rfl⟩
        have hec : ∀ v, ev (.const v) = v := fun v => by rw [hev]; rfl
        have hef : ∀ f, ev (.func f) = .func (.func f) #[] #[] := fun f => by rw [hev]; rfl
        rw [← hev] at hbase hdeps
        rw [if_pos (by kernel_rfl)]
        left
        refine step_val (v := .agg #[.int .i64 0, .int .i64 0]) (w' := w') ?_ (hK _ _ (Below.refl _ _) (by intro d hd; cases hd; exact rfl) (by intro d hd hm; cases hd; exact absurd hm (by decide)))
        rw [← hev]
        clear hK hdeps hbase hev
        simp only [execOp, hec, hef]
        go_simp
      refine ⟨?_, ?_⟩
      · intro a w' hB hsz hbase hdeps K hK
        obtain ⟨ev, hev⟩ : ∃ ev, ev = a.eval := ⟨_, rfl⟩
        have hec : ∀ v, ev (.const v) = v := fun v => by rw [hev]; rfl
        have hef : ∀ f, ev (.func f) = .func (.func f) #[] #[] := fun f => by rw [hev]; rfl
        rw [← hev] at hbase hdeps
        have d24 : ev (.tmp 24) = .agg #[.int .i64 0, .int .i64 0] := hdeps 24 (of_decide_eq_true (by kernel_rfl))
        have d25 : ev (.tmp 25) = .agg #[.int .i64 0, .int .i64 0] := hdeps 25 (of_decide_eq_true (by kernel_rfl))
        rw [if_pos (by kernel_rfl)]
        left
        have hq := fun W => eqFault 0 0 W
        refine step_val (v := .bool true) (w' := w') ?_ (hK _ _ (Below.refl _ _) (by intro d hd; cases hd; exact rfl) (by intro d hd hm; cases hd; exact absurd hm (by decide)))
        rw [← hev]
        clear hK hdeps hbase hev
        simp only [execOp, hec, hef, d24, d25]
        go_simp
      refine ⟨?_, ?_⟩
      · intro a w' hB hsz hbase hdeps K hK
        obtain ⟨ev, hev⟩ : ∃ ev, ev = a.eval := ⟨_, rfl⟩
        have hec : ∀ v, ev (.const v) = v := fun v => by rw [hev]; rfl
        have hef : ∀ f, ev (.func f) = .func (.func f) #[] #[] := fun f => by rw [hev]; rfl
        rw [← hev] at hbase hdeps
        have d26 : ev (.tmp 26) = .bool true := hdeps 26 (of_decide_eq_true (by kernel_rfl))
        rw [if_pos (by kernel_rfl)]
        left
        refine step_val (v := .bool true) (w' := w') ?_ (hK _ _ (Below.refl _ _) (by intro d hd; cases hd; exact rfl) (by intro d hd hm; cases hd; exact absurd hm (by decide)))
        rw [← hev]
        clear hK hdeps hbase hev
        simp only [execOp, hec, hef, d26]
        go_simp
      refine ⟨?_, ?_⟩
      · intro a w' hB hsz hbase hdeps K hK
        obtain ⟨ev, hev⟩ : ∃ ev, ev = a.eval := ⟨_, rfl⟩
        have hec : ∀ v, ev (.const v) = v := fun v => by rw [hev]; rfl
        have hef : ∀ f, ev (.func f) = .func (.func f) #[] #[] := fun f => by rw [hev]; rfl
        rw [← hev] at hbase hdeps
        have b6 : ev (.tmp 6) = (.slice (some ⟨ab, ao, none⟩) 1 c) := (hbase 6 (by kernel_rfl))
        rw [if_pos (wanted_of (j := 3) (b := true) (d := 27) rfl (by kernel_rfl) (by rw [← hev]; exact hdeps 27 (of_decide_eq_true (by kernel_rfl))))]
        left
        refine step_val (v := (.slice (some ⟨ab, ao, none⟩) 1 c)) (w' := w') ?_ (hK _ _ (Below.refl _ _) (by intro d hd; cases hd; exact rfl) (by intro d hd hm; cases hd; exact absurd hm (by decide)))
        rw [← hev]
        clear hK hdeps hbase hev
        simp only [execOp, hec, hef, b6]
        go_simp
      refine ⟨?_, ?_⟩
      · intro a w' hB hsz hbase hdeps K hK
        obtain ⟨ev, hev⟩ : ∃ ev, ev = a.eval := ⟨_, rfl⟩
        have hec : ∀ v, ev (.const v) = v := fun v => by rw [hev]; rfl
        have hef : ∀ f, ev (.func f) = .func (.func f) #[] #[] := fun f => by rw [hev]; rfl
        rw [← hev] at hbase hdeps
        have d28 : ev (.tmp 28) = (.slice (some ⟨ab, ao, none⟩) 1 c) := hdeps 28 (of_decide_eq_true (by kernel_rfl))
        rw [if_pos (wanted_of (j := 3) (b := true) (d := 27) rfl (by kernel_rfl) (by rw [← hev]; exact hdeps 27 (of_decide_eq_true (by kernel_rfl))))]
        left
        refine step_val (v := .int .i64 1) (w' := w') ?_ (hK _ _ (Below.refl _ _) (by intro d hd; cases hd; exact rfl) (by intro d hd hm; cases hd; exact absurd hm (by decide)))
        rw [← hev]
        clear hK hdeps hbase hev
        simp only [execOp, hec, hef, d28]
        go_simp
      refine ⟨?_, ?_⟩
      · intro a w' hB hsz hbase hdeps K hK
        obtain ⟨ev, hev⟩ : ∃ ev, ev = a.eval := ⟨_, rfl⟩
        have hec : ∀ v, ev (.const v) = v := fun v => by rw [hev]; rfl
        have hef : ∀ f, ev (.func f) = .func (.func f) #[] #[] := fun f => by rw [hev]; rfl
        rw [← hev] at hbase hdeps
        have d29 : ev (.tmp 29) = .int .i64 1 := hdeps 29 (of_decide_eq_true (by kernel_rfl))
        rw [if_pos (wanted_of (j := 3) (b := true) (d := 27) rfl (by kernel_rfl) (by rw [← hev]; exact hdeps 27 (of_decide_eq_true (by kernel_rfl))))]
        left
        refine step_val (v := .bool true) (w' := w') ?_ (hK _ _ (Below.refl _ _) (by intro d hd; cases hd; exact rfl) (by intro d hd hm; cases hd; exact absurd hm (by decide)))
        rw [← hev]
        clear hK hdeps hbase hev
        simp only [execOp, hec, hef, d29]
        go_simp
      refine ⟨?_, ?_⟩
      · intro a w' hB hsz hbase hdeps K hK
        obtain ⟨ev, hev⟩ : ∃ ev, ev = a.eval := ⟨_, rfl⟩
        have hec : ∀ v, ev (.const v) = v := fun v => by rw [hev]; rfl
        have hef : ∀ f, ev (.func f) = .func (.func f) #[] #[] := fun f => by rw [hev]; rfl
        rw [← hev] at hbase hdeps
        have d27 : ev (.tmp 27) = .bool true := hdeps 27 (of_decide_eq_true (by kernel_rfl))
        have d30 : ev (.tmp 30) = .bool true := hdeps 30 (of_decide_eq_true (by kernel_rfl))
        rw [if_pos (by kernel_rfl)]
        left
        refine step_val (v := .bool true) (w' := w') ?_ (hK _ _ (Below.refl _ _) (by intro d hd; cases hd; exact rfl) (by intro d hd hm; cases hd; exact absurd hm (by decide)))
        rw [← hev]
        clear hK hdeps hbase hev
        simp only [execOp, hec, hef, d27, d30]
        go_simp
      refine ⟨?_, ?_⟩
      · intro a w' hB hsz hbase hdeps K hK
        obtain ⟨ev, hev⟩ : ∃ ev, ev = a.eval := ⟨_, rfl⟩
        have hec : ∀ v, ev (.const v) = v := fun v => by rw [hev]; rfl
        have hef : ∀ f, ev (.func f) = .func (.func f) #[] #[] := fun f => by rw [hev]; rfl
        rw [← hev] at hbase hdeps
        have d31 : ev (.tmp 31) = .bool true := hdeps 31 (of_decide_eq_true (by kernel_rfl))
        rw [if_pos (by kernel_rfl)]
        left
        refine step_val (v := .bool true) (w' := w') ?_ (hK _ _ (Below.refl _ _) (by intro d hd; cases hd; exact rfl) (by intro d hd hm; cases hd; exact absurd hm (by decide)))
        rw [← hev]
        clear hK hdeps hbase hev
        simp only [execOp, hec, hef, d31]
        go_simp
      refine ⟨?_, ?_⟩
      · intro a w' hB hsz hbase hdeps K hK
        obtain ⟨ev, hev⟩ : ∃ ev, ev = a.eval := ⟨_, rfl⟩
        have hec : ∀ v, ev (.const v) = v := fun v => by rw [hev]; rfl
        have hef : ∀ f, ev (.func f) = .func (.func f) #[] #[] := fun f => by rw [hev]; rfl
        rw [← hev] at hbase hdeps
        have b6 : ev (.tmp 6) = (.slice (some ⟨ab, ao, none⟩) 1 c) := (hbase 6 (by kernel_rfl))
        rw [if_pos (wanted_of (j := 8) (b := true) (d := 32) rfl (by kernel_rfl) (by rw [← hev]; exact hdeps 32 (of_decide_eq_true (by kernel_rfl))))]
        left
        refine step_val (v := (.slice (some ⟨ab, ao, none⟩) 1 c)) (w' := w') ?_ (hK _ _ (Below.refl _ _) (by intro d hd; cases hd; exact rfl) (by intro d hd hm; cases hd; exact absurd hm (by decide)))
        rw [← hev]
        clear hK hdeps hbase hev
        simp only [execOp, hec, hef, b6]
        go_simp
      refine ⟨?_, ?_⟩
      · intro a w' hB hsz hbase hdeps K hK
        obtain ⟨ev, hev⟩ : ∃ ev, ev = a.eval := ⟨_, rfl⟩
        have hec : ∀ v, ev (.const v) = v := fun v => by rw [hev]; rfl
        have hef : ∀ f, ev (.func f) = .func (.func f) #[] #[] := fun f => by rw [hev]; rfl
        rw [← hev] at hbase hdeps
        have d33 : ev (.tmp 33) = (.slice (some ⟨ab, ao, none⟩) 1 c) := hdeps 33 (of_decide_eq_true (by kernel_rfl))
        rw [if_pos (wanted_of (j := 8) (b := true) (d := 32) rfl (by kernel_rfl) (by rw [← hev]; exact hdeps 32 (of_decide_eq_true (by kernel_rfl))))]
        left
        refine step_val (v := (.pointer (some ⟨ab, ao, none⟩))) (w' := w') ?_ (hK _ _ (Below.refl _ _) (by intro d hd; cases hd; exact rfl) (by intro d hd hm; cases hd; exact absurd hm (by decide)))
        rw [← hev]
        clear hK hdeps hbase hev
        simp only [execOp, hec, hef, d33]
        go_simp
      refine ⟨?_, ?_⟩
      · intro a w' hB hsz hbase hdeps K hK
        obtain ⟨ev, hev⟩ : ∃ ev, ev = a.eval := ⟨_, rfl⟩
        have hec : ∀ v, ev (.const v) = v := fun v => by rw [hev]; rfl
        have hef : ∀ f, ev (.func f) = .func (.func f) #[] #[] := fun f => by rw [hev]; rfl
        rw [← hev] at hbase hdeps
        have d34 : ev (.tmp 34) = (.pointer (some ⟨ab, ao, none⟩)) := hdeps 34 (of_decide_eq_true (by kernel_rfl))
        rw [if_pos (wanted_of (j := 8) (b := true) (d := 32) rfl (by kernel_rfl) (by rw [← hev]; exact hdeps 32 (of_decide_eq_true (by kernel_rfl))))]
        left
        refine step_val (v := (.pointer (some ⟨ab, ao + 1, none⟩))) (w' := w') ?_ (hK _ _ (Below.refl _ _) (by intro d hd; cases hd; exact rfl) (by intro d hd hm; cases hd; exact absurd hm (by decide)))
        rw [← hev]
        clear hK hdeps hbase hev
        simp only [execOp, hec, hef, d34]
        go_simp
      refine ⟨?_, ?_⟩
      · intro a w' hB hsz hbase hdeps K hK
        obtain ⟨ev, hev⟩ : ∃ ev, ev = a.eval := ⟨_, rfl⟩
        have hec : ∀ v, ev (.const v) = v := fun v => by rw [hev]; rfl
        have hef : ∀ f, ev (.func f) = .func (.func f) #[] #[] := fun f => by rw [hev]; rfl
        rw [← hev] at hbase hdeps
        have d35 : ev (.tmp 35) = (.pointer (some ⟨ab, ao + 1, none⟩)) := hdeps 35 (of_decide_eq_true (by kernel_rfl))
        rw [if_pos (wanted_of (j := 8) (b := true) (d := 32) rfl (by kernel_rfl) (by rw [← hev]; exact hdeps 32 (of_decide_eq_true (by kernel_rfl))))]
        left
        have x0 : w'.cell? ⟨W2.heap.size, 0, none⟩ = some (.int .i64 0) := (HF.out.1.call hB).cell' rfl
        have x1 : w'.cell? ⟨W2.heap.size, 1, none⟩ = some (.int .i64 0) := (HF.out.1.call hB).cell' rfl
        have xl := (HF.out.1.call hB).lt
        have x2 : w'.cell? ⟨ab, ao + 1, none⟩ = some (.slice B 1 cd) := ((bcell hB).1 _ _ HF.out.2.1).trans HF.out.2.2.1
        have xa : ab < w'.heap.size := Nat.lt_of_lt_of_le HF.out.2.1 hB.size
        refine step_val (v := (.slice B 1 cd)) (w' := w') ?_ (hK _ _ (Below.refl _ _) (by intro d hd; cases hd; exact rfl) (by intro d hd hm; cases hd; exact absurd hm (by decide)))
        rw [← hev]
        clear hK hdeps hbase hev
        simp only [execOp, hec, hef, d35]
        go_simp
      refine ⟨?_, ?_⟩
      · intro a w' hB hsz hbase hdeps K hK
        obtain ⟨ev, hev⟩ : ∃ ev, ev = a.eval := ⟨_, rfl⟩
        have hec : ∀ v, ev (.const v) = v := fun v => by rw [hev]; rfl
        have hef : ∀ f, ev (.func f) = .func (.func f) #[] #[] := fun f => by rw [hev]; rfl
        rw [← hev] at hbase hdeps
        have b0 : ev (.tmp 0) = .string s := (hbase 0 (by kernel_rfl))
        rw [if_pos (wanted_of (j := 8) (b := true) (d := 32) rfl (by kernel_rfl) (by rw [← hev]; exact hdeps 32 (of_decide_eq_true (by kernel_rfl))))]
        left
        refine step_val (v := .string s) (w' := w') ?_ (hK _ _ (Below.refl _ _) (by intro d hd; cases hd; exact rfl) (by intro d hd hm; cases hd; exact absurd hm (by decide)))
        rw [← hev]
        clear hK hdeps hbase hev
        simp only [execOp, hec, hef, b0]
        go_simp
      refine ⟨?_, ?_⟩
      · intro a w' hB hsz hbase hdeps K hK
        obtain ⟨ev, hev⟩ : ∃ ev, ev = a.eval := ⟨_, rfl⟩
        have hec : ∀ v, ev (.const v) = v := fun v => by rw [hev]; rfl
        have hef : ∀ f, ev (.func f) = .func (.func f) #[] #[] := fun f => by rw [hev]; rfl
        rw [← hev] at hbase hdeps
        have b0 : ev (.tmp 0) = .string s := (hbase 0 (by kernel_rfl))
        rw [if_pos (wanted_of (j := 8) (b := true) (d := 32) rfl (by kernel_rfl) (by rw [← hev]; exact hdeps 32 (of_decide_eq_true (by kernel_rfl))))]
        left
        refine step_val (v := .string s) (w' := w') ?_ (hK _ _ (Below.refl _ _) (by intro d hd; cases hd; exact rfl) (by intro d hd hm; cases hd; exact absurd hm (by decide)))
        rw [← hev]
        clear hK hdeps hbase hev
        simp only [execOp, hec, hef, b0]
        go_simp
      refine ⟨?_, ?_⟩
      · intro a w' hB hsz hbase hdeps K hK
        obtain ⟨ev, hev⟩ : ∃ ev, ev = a.eval := ⟨_, rfl⟩
        have hec : ∀ v, ev (.const v) = v := fun v => by rw [hev]; rfl
        have hef : ∀ f, ev (.func f) = .func (.func f) #[] #[] := fun f => by rw [hev]; rfl
        rw [← hev] at hbase hdeps
        have d38 : ev (.tmp 38) = .string s := hdeps 38 (of_decide_eq_true (by kernel_rfl))
        rw [if_pos (wanted_of (j := 8) (b := true) (d := 32) rfl (by kernel_rfl) (by rw [← hev]; exact hdeps 32 (of_decide_eq_true (by kernel_rfl))))]
        left
        refine step_enter (w' := w') (f := 18) (args := #[.string s]) ?_ ?_
        · rw [← hev]
          clear hK hdeps hbase hev
          simp only [execOp, hec, hef, d38]
          go_simp
        · refine (HC.out.1 w').mono ?_
          rintro e W ⟨rfl, hb⟩
          exact ⟨_, rfl, hK _ _ hb (by intro d hd; cases hd; exact rfl) (by intro d hd hm; cases hd; exact absurd hm (by decide))⟩
      refine ⟨?_, ?_⟩
      · intro a w' hB hsz hbase hdeps K hK
        obtain ⟨ev, hev⟩ : ∃ ev, ev = a.eval := ⟨_, rfl⟩
        have hec : ∀ v, ev (.const v) = v := fun v => by rw [hev]; rfl
        have hef : ∀ f, ev (.func f) = .func (.func f) #[] #[] := fun f => by rw [hev]; rfl
        rw [← hev] at hbase hdeps
        have d39 : ev (.tmp 39) = .bool bw := hdeps 39 (of_decide_eq_true (by kernel_rfl))
        rw [if_pos (wanted_of (j := 8) (b := true) (d := 32) rfl (by kernel_rfl) (by rw [← hev]; exact hdeps 32 (of_decide_eq_true (by kernel_rfl))))]
        left
        refine step_val (v := .bool (!bw)) (w' := w') ?_ (hK _ _ (Below.refl _ _) (by intro d hd; cases hd; exact rfl) (by intro d hd hm; cases hd; exact absurd hm (by decide)))
        rw [← hev]
        clear hK hdeps hbase hev
        simp only [execOp, hec, hef, d39]
        go_simp
      refine ⟨?_, ?_⟩
      · intro a w' hB hsz hbase hdeps K hK
        obtain ⟨ev, hev⟩ : ∃ ev, ev = a.eval := ⟨_, rfl⟩
        have hec : ∀ v, ev (.const v) = v := fun v => by rw [hev]; rfl
        have hef : ∀ f, ev (.func f) = .func (.func f) #[] #[] := fun f => by rw [hev]; rfl
        rw [← hev] at hbase hdeps
        have d37 : ev (.tmp 37) = .string s := hdeps 37 (of_decide_eq_true (by kernel_rfl))
        have d40 : ev (.tmp 40) = .bool (!bw) := hdeps 40 (of_decide_eq_true (by kernel_rfl))
        rw [if_pos (wanted_of (j := 8) (b := true) (d := 32) rfl (by kernel_rfl) (by rw [← hev]; exact hdeps 32 (of_decide_eq_true (by kernel_rfl))))]
        left
        refine step_val (v := .agg #[.int .i64 0, .string s, .bool (!bw)]) (w' := w') ?_ (hK _ _ (Below.refl _ _) (by intro d hd; cases hd; exact rfl) (by intro d hd hm; cases hd; exact absurd hm (by decide)))
        rw [← hev]
        clear hK hdeps hbase hev
        simp only [execOp, hec, hef, d37, d40]
        go_simp
      refine ⟨?_, ?_⟩
      · intro a w' hB hsz hbase hdeps K hK
        obtain ⟨ev, hev⟩ : ∃ ev, ev = a.eval := ⟨_, rfl⟩
        have hec : ∀ v, ev (.const v) = v := fun v => by rw [hev]; rfl
        have hef : ∀ f, ev (.func f) = .func (.func f) #[] #[] := fun f => by rw [hev]; rfl
        rw [← hev] at hbase hdeps
        have d41 : ev (.tmp 41) = .agg #[.int .i64 0, .string s, .bool (!bw)] := hdeps 41 (of_decide_eq_true (by kernel_rfl))
        rw [if_pos (wanted_of (j := 8) (b := true) (d := 32) rfl (by kernel_rfl) (by rw [← hev]; exact hdeps 32 (of_decide_eq_true (by kernel_rfl))))]
        left
        refine step_val (v := .slice (some ⟨w'.heap.size, 0, none⟩) 1 1) (w' := w'.alloc (.cells #[.int .i64 0, .string s, .bool (!bw)] 41)) ?_ (hK _ _ (gr_alloc (Below.refl _ _) _) (by intro d hd; cases hd; exact ⟨_, rfl, Blk.new _ _ _⟩) (by intro d hd hm; cases hd; exact absurd hm (by decide)))
        rw [← hev]
        clear hK hdeps hbase hev
        simp only [execOp, hec, hef, d41]
        go_simp
      refine ⟨?_, ?_⟩
      · intro a w' hB hsz hbase hdeps K hK
        obtain ⟨ev, hev⟩ : ∃ ev, ev = a.eval := ⟨_, rfl⟩
        have hec : ∀ v, ev (.const v) = v := fun v => by rw [hev]; rfl
        have hef : ∀ f, ev (.func f) = .func (.func f) #[] #[] := fun f => by rw [hev]; rfl
        rw [← hev] at hbase hdeps
        have d36 : ev (.tmp 36) = (.slice B 1 cd) := hdeps 36 (of_decide_eq_true (by kernel_rfl))
        have d42 := hdeps 42 (of_decide_eq_true (by kernel_rfl))
        obtain ⟨g, eg, hg⟩ := d42
        rw [if_pos (wanted_of (j := 8) (b := true) (d := 32) rfl (by kernel_rfl) (by rw [← hev]; exact hdeps 32 (of_decide_eq_true (by kernel_rfl))))]
        left
        refine step_enter (w' := w') (f := 17) (args := #[.slice B 1 cd, .slice (some ⟨g, 0, none⟩) 1 1]) ?_ ?_
        · rw [← hev]
          clear hK hdeps hbase hev
          simp only [execOp, hec, hef, d36, eg]
          go_simp
        · refine (lsameWords [⟨0, s, !bw⟩] (by simp) (.slice B 1 cd) (.slice (some ⟨g, 0, none⟩) 1 1) w' (HF.out.2.2.2.1.below hB) (words_one hg)).mono ?_
          rintro e W ⟨rfl, q, rfl⟩
          exact ⟨_, rfl, hK _ _ (below_drewN (Below.refl _ _) q) (by intro d hd; cases hd; exact rfl) (by intro d hd hm; cases hd; exact absurd hm (by decide))⟩
      refine ⟨?_, ?_⟩
      · intro a w' hB hsz hbase hdeps K hK
        obtain ⟨ev, hev⟩ : ∃ ev, ev = a.eval := ⟨_, rfl⟩
        have hec : ∀ v, ev (.const v) = v := fun v => by rw [hev]; rfl
        have hef : ∀ f, ev (.func f) = .func (.func f) #[] #[] := fun f => by rw [hev]; rfl
        rw [← hev] at hbase hdeps
        have d32 : ev (.tmp 32) = .bool true := hdeps 32 (of_decide_eq_true (by kernel_rfl))
        have d43 : ev (.tmp 43) = .bool true := hdeps 43 (of_decide_eq_true (by kernel_rfl))
        rw [if_pos (by kernel_rfl)]
        left
        refine step_val (v := .bool true) (w' := w') ?_ (hK _ _ (Below.refl _ _) (by intro d hd; cases hd; exact rfl) (by intro d hd hm; cases hd; exact absurd hm (by decide)))
        rw [← hev]
        clear hK hdeps hbase hev
        simp only [execOp, hec, hef, d32, d43]
        go_simp
      refine ⟨?_, ?_⟩
      · intro a w' hB hsz hbase hdeps K hK
        obtain ⟨ev, hev⟩ : ∃ ev, ev = a.eval := ⟨_, rfl⟩
        have hec : ∀ v, ev (.const v) = v := fun v => by rw [hev]; rfl
        have hef : ∀ f, ev (.func f) = .func (.func f) #[] #[] := fun f => by rw [hev]; rfl
        rw [← hev] at hbase hdeps
        have d44 : ev (.tmp 44) = .bool true := hdeps 44 (of_decide_eq_true (by kernel_rfl))
        rw [if_pos (by kernel_rfl)]
        left
        refine step_val (v := .bool true) (w' := w') ?_ (hK _ _ (Below.refl _ _) (by intro d hd; cases hd; exact rfl) (by intro d hd hm; cases hd; exact absurd hm (by decide)))
        rw [← hev]
        clear hK hdeps hbase hev
        simp only [execOp, hec, hef, d44]
        go_simp
      refine ⟨?_, ?_⟩
      · intro a w' hB hsz hbase hdeps K hK
        obtain ⟨ev, hev⟩ : ∃ ev, ev = a.eval := ⟨_, rfl⟩
        have hec : ∀ v, ev (.const v) = v := fun v => by rw [hev]; rfl
        have hef : ∀ f, ev (.func f) = .func (.func f) #[] #[] := fun f => by rw [hev]; rfl
        rw [← hev] at hbase hdeps
        have b0 : ev (.tmp 0) = .string s := (hbase 0 (by kernel_rfl))
        rw [if_pos (wanted_of (j := 21) (b := true) (d := 45) rfl (by kernel_rfl) (by rw [← hev]; exact hdeps 45 (of_decide_eq_true (by kernel_rfl))))]
        left
        refine step_val (v := .string s) (w' := w') ?_ (hK _ _ (Below.refl _ _) (by intro d hd; cases hd; exact rfl) (by intro d hd hm; cases hd; exact absurd hm (by decide)))
        rw [← hev]
        clear hK hdeps hbase hev
        simp only [execOp, hec, hef, b0]
        go_simp
      refine ⟨?_, ?_⟩
      · intro a w' hB hsz hbase hdeps K hK
        obtain ⟨ev, hev⟩ : ∃ ev, ev = a.eval := ⟨_, rfl⟩
        have hec : ∀ v, ev (.const v) = v := fun v => by rw [hev]; rfl
        have hef : ∀ f, ev (.func f) = .func (.func f) #[] #[] := fun f => by rw [hev]; rfl
        rw [← hev] at hbase hdeps
        have d46 : ev (.tmp 46) = .string s := hdeps 46 (of_decide_eq_true (by kernel_rfl))
        rw [if_pos (wanted_of (j := 21) (b := true) (d := 45) rfl (by kernel_rfl) (by rw [← hev]; exact hdeps 45 (of_decide_eq_true (by kernel_rfl))))]
        left
        refine step_enter (w' := w') (f := 18) (args := #[.string s]) ?_ ?_
        · rw [← hev]
          clear hK hdeps hbase hev
          simp only [execOp, hec, hef, d46]
          go_simp
        · refine (HC.out.1 w').mono ?_
          rintro e W ⟨rfl, hb⟩
          exact ⟨_, rfl, hK _ _ hb (by intro d hd; cases hd; exact rfl) (by intro d hd hm; cases hd; exact absurd hm (by decide))⟩
      refine ⟨?_, ?_⟩
      · intro a w' hB hsz hbase hdeps K hK
        obtain ⟨ev, hev⟩ : ∃ ev, ev = a.eval := ⟨_, rfl⟩
        have hec : ∀ v, ev (.const v) = v := fun v => by rw [hev]; rfl
        have hef : ∀ f, ev (.func f) = .func (.func f) #[] #[] := fun f => by rw [hev]; rfl
        rw [← hev] at hbase hdeps
        have b5 : ev (.tmp 5) = .string sx := (hbase 5 (by kernel_rfl))
        rw [if_pos (wanted_of (j := 21) (b := true) (d := 45) rfl (by kernel_rfl) (by rw [← hev]; exact hdeps 45 (of_decide_eq_true (by kernel_rfl))))]
        left
        refine step_val (v := .string sx) (w' := w') ?_ (hK _ _ (Below.refl _ _) (by intro d hd; cases hd; exact rfl) (by intro d hd hm; cases hd; exact absurd hm (by decide)))
        rw [← hev]
        clear hK hdeps hbase hev
        simp only [execOp, hec, hef, b5]
        go_simp
      refine ⟨?_, ?_⟩
      · intro a w' hB hsz hbase hdeps K hK
        obtain ⟨ev, hev⟩ : ∃ ev, ev = a.eval := ⟨_, rfl⟩
        have hec : ∀ v, ev (.const v) = v := fun v => by rw [hev]; rfl
        have hef : ∀ f, ev (.func f) = .func (.func f) #[] #[] := fun f => by rw [hev]; rfl
        rw [← hev] at hbase hdeps
        have b0 : ev (.tmp 0) = .string s := (hbase 0 (by kernel_rfl))
        rw [if_pos (wanted_of (j := 21) (b := true) (d := 45) rfl (by kernel_rfl) (by rw [← hev]; exact hdeps 45 (of_decide_eq_true (by kernel_rfl))))]
        left
        refine step_val (v := .string s) (w' := w') ?_ (hK _ _ (Below.refl _ _) (by intro d hd; cases hd; exact rfl) (by intro d hd hm; cases hd; exact absurd hm (by decide)))
        rw [← hev]
        clear hK hdeps hbase hev
        simp only [execOp, hec, hef, b0]
        go_simp
      refine ⟨?_, ?_⟩
      · intro a w' hB hsz hbase hdeps K hK
        obtain ⟨ev, hev⟩ : ∃ ev, ev = a.eval := ⟨_, rfl⟩
        have hec : ∀ v, ev (.const v) = v := fun v => by rw [hev]; rfl
        have hef : ∀ f, ev (.func f) = .func (.func f) #[] #[] := fun f => by rw [hev]; rfl
        rw [← hev] at hbase hdeps
        have d48 : ev (.tmp 48) = .string sx := hdeps 48 (of_decide_eq_true (by kernel_rfl))
        have d49 : ev (.tmp 49) = .string s := hdeps 49 (of_decide_eq_true (by kernel_rfl))
        rw [if_pos (wanted_of (j := 21) (b := true) (d := 45) rfl (by kernel_rfl) (by rw [← hev]; exact hdeps 45 (of_decide_eq_true (by kernel_rfl))))]
        left
        have hq := HC.out.2.2.1
        refine step_val (v := .bool bw) (w' := w') ?_ (hK _ _ (Below.refl _ _) (by intro d hd; cases hd; exact rfl) (by intro d hd hm; cases hd; exact absurd hm (by decide)))
        rw [← hev]
        clear hK hdeps hbase hev
        simp only [execOp, hec, hef, d48, d49]
        go_simp
      refine ⟨?_, ?_⟩
      · intro a w' hB hsz hbase hdeps K hK
        obtain ⟨ev, hev⟩ : ∃ ev, ev = a.eval := ⟨_, rfl⟩
        have hec : ∀ v, ev (.const v) = v := fun v => by rw [hev]; rfl
        have hef : ∀ f, ev (.func f) = .func (.func f) #[] #[] := fun f => by rw [hev]; rfl
        rw [← hev] at hbase hdeps
        have d47 : ev (.tmp 47) = .bool bw := hdeps 47 (of_decide_eq_true (by kernel_rfl))
        have d50 : ev (.tmp 50) = .bool bw := hdeps 50 (of_decide_eq_true (by kernel_rfl))
        rw [if_pos (wanted_of (j := 21) (b := true) (d := 45) rfl (by kernel_rfl) (by rw [← hev]; exact hdeps 45 (of_decide_eq_true (by kernel_rfl))))]
        left
        refine step_val (v := .bool true) (w' := w') ?_ (hK _ _ (Below.refl _ _) (by intro d hd; cases hd; exact rfl) (by intro d hd hm; cases hd; exact absurd hm (by decide)))
        rw [← hev]
        clear hK hdeps hbase hev
        simp only [execOp, hec, hef, d47, d50]
        go_simp
      refine ⟨?_, ?_⟩
      · intro a w' hB hsz hbase hdeps K hK
        obtain ⟨ev, hev⟩ : ∃ ev, ev = a.eval := ⟨_, rfl⟩
        have hec : ∀ v, ev (.const v) = v := fun v => by rw [hev]; rfl
        have hef : ∀ f, ev (.func f) = .func (.func f) #[] #[] := fun f => by rw [hev]; rfl
        rw [← hev] at hbase hdeps
        have d45 : ev (.tmp 45) = .bool true := hdeps 45 (of_decide_eq_true (by kernel_rfl))
        have d51 : ev (.tmp 51) = .bool true := hdeps 51 (of_decide_eq_true (by kernel_rfl))
        rw [if_pos (by kernel_rfl)]
        left
        refine step_val (v := .bool true) (w' := w') ?_ (hK _ _ (Below.refl _ _) (by intro d hd; cases hd; exact rfl) (by intro d hd hm; cases hd; exact absurd hm (by decide)))
        rw [← hev]
        clear hK hdeps hbase hev
        simp only [execOp, hec, hef, d45, d51]
        go_simp
      refine ⟨?_, ?_⟩
      · intro a w' hB hsz hbase hdeps K hK
        obtain ⟨ev, hev⟩ : ∃ ev, ev = a.eval := ⟨_, rfl⟩
        have hec : ∀ v, ev (.const v) = v := fun v => by rw [hev]; rfl
        have hef : ∀ f, ev (.func f) = .func (.func f) #[] #[] := fun f => by rw [hev]; rfl
        rw [← hev] at hbase hdeps
        have d52 : ev (.tmp 52) = .bool true := hdeps 52 (of_decide_eq_true (by kernel_rfl))
        rw [if_pos (by kernel_rfl)]
        left
        refine step_val (v := .bool true) (w' := w') ?_ (hK _ _ (Below.refl _ _) (by intro d hd; cases hd; exact rfl) (by intro d hd hm; cases hd; exact absurd hm (by decide)))
        rw [← hev]
        clear hK hdeps hbase hev
        simp only [execOp, hec, hef, d52]
        go_simp
      refine ⟨?_, ?_⟩
      · intro a w' hB hsz hbase hdeps K hK
        obtain ⟨ev, hev⟩ : ∃ ev, ev = a.eval := ⟨_, rfl⟩
        have hec : ∀ v, ev (.const v) = v := fun v => by rw [hev]; rfl
        have hef : ∀ f, ev (.func f) = .func (.func f) #[] #[] := fun f => by rw [hev]; rfl
        rw [← hev] at hbase hdeps
        have b0 : ev (.tmp 0) = .string s := (hbase 0 (by kernel_rfl))
        rw [if_pos (wanted_of (j := 29) (b := true) (d := 53) rfl (by kernel_rfl) (by rw [← hev]; exact hdeps 53 (of_decide_eq_true (by kernel_rfl))))]
        left
        refine step_val (v := .string s) (w' := w') ?_ (hK _ _ (Below.refl _ _) (by intro d hd; cases hd; exact rfl) (by intro d hd hm; cases hd; exact absurd hm (by decide)))
        rw [← hev]
        clear hK hdeps hbase hev
        simp only [execOp, hec, hef, b0]
        go_simp
      refine ⟨?_, ?_⟩
      · intro a w' hB hsz hbase hdeps K hK
        obtain ⟨ev, hev⟩ : ∃ ev, ev = a.eval := ⟨_, rfl⟩
        have hec : ∀ v, ev (.const v) = v := fun v => by rw [hev]; rfl
        have hef : ∀ f, ev (.func f) = .func (.func f) #[] #[] := fun f => by rw [hev]; rfl
        rw [← hev] at hbase hdeps
        have b1 : ev (.tmp 1) = .string t := (hbase 1 (by kernel_rfl))
        rw [if_pos (wanted_of (j := 29) (b := true) (d := 53) rfl (by kernel_rfl) (by rw [← hev]; exact hdeps 53 (of_decide_eq_true (by kernel_rfl))))]
        left
        refine step_val (v := .string t) (w' := w') ?_ (hK _ _ (Below.refl _ _) (by intro d hd; cases hd; exact rfl) (by intro d hd hm; cases hd; exact absurd hm (by decide)))
        rw [← hev]
        clear hK hdeps hbase hev
        simp only [execOp, hec, hef, b1]
        go_simp
      refine ⟨?_, ?_⟩
      · intro a w' hB hsz hbase hdeps K hK
        obtain ⟨ev, hev⟩ : ∃ ev, ev = a.eval := ⟨_, rfl⟩
        have hec : ∀ v, ev (.const v) = v := fun v => by rw [hev]; rfl
        have hef : ∀ f, ev (.func f) = .func (.func f) #[] #[] := fun f => by rw [hev]; rfl
        rw [← hev] at hbase hdeps
        have d54 : ev (.tmp 54) = .string s := hdeps 54 (of_decide_eq_true (by kernel_rfl))
        have d55 : ev (.tmp 55) = .string t := hdeps 55 (of_decide_eq_true (by kernel_rfl))
        rw [if_pos (wanted_of (j := 29) (b := true) (d := 53) rfl (by kernel_rfl) (by rw [← hev]; exact hdeps 53 (of_decide_eq_true (by kernel_rfl))))]
        left
        have hq := HC.out.2.2.2.1
        refine step_val (v := .bool st) (w' := w') ?_ (hK _ _ (Below.refl _ _) (by intro d hd; cases hd; exact rfl) (by intro d hd hm; cases hd; exact absurd hm (by decide)))
        rw [← hev]
        clear hK hdeps hbase hev
        simp only [execOp, hec, hef, d54, d55]
        go_simp
      refine ⟨?_, ?_⟩
      · intro a w' hB hsz hbase hdeps K hK
        obtain ⟨ev, hev⟩ : ∃ ev, ev = a.eval := ⟨_, rfl⟩
        have hec : ∀ v, ev (.const v) = v := fun v => by rw [hev]; rfl
        have hef : ∀ f, ev (.func f) = .func (.func f) #[] #[] := fun f => by rw [hev]; rfl
        rw [← hev] at hbase hdeps
        have b5 : ev (.tmp 5) = .string sx := (hbase 5 (by kernel_rfl))
        rw [if_pos (wanted_of (j := 29) (b := true) (d := 53) rfl (by kernel_rfl) (by rw [← hev]; exact hdeps 53 (of_decide_eq_true (by kernel_rfl))))]
        left
        refine step_val (v := .string sx) (w' := w') ?_ (hK _ _ (Below.refl _ _) (by intro d hd; cases hd; exact rfl) (by intro d hd hm; cases hd; exact absurd hm (by decide)))
        rw [← hev]
        clear hK hdeps hbase hev
        simp only [execOp, hec, hef, b5]
        go_simp
      refine ⟨?_, ?_⟩
      · intro a w' hB hsz hbase hdeps K hK
        obtain ⟨ev, hev⟩ : ∃ ev, ev = a.eval := ⟨_, rfl⟩
        have hec : ∀ v, ev (.const v) = v := fun v => by rw [hev]; rfl
        have hef : ∀ f, ev (.func f) = .func (.func f) #[] #[] := fun f => by rw [hev]; rfl
        rw [← hev] at hbase hdeps
        have b1 : ev (.tmp 1) = .string t := (hbase 1 (by kernel_rfl))
        rw [if_pos (wanted_of (j := 29) (b := true) (d := 53) rfl (by kernel_rfl) (by rw [← hev]; exact hdeps 53 (of_decide_eq_true (by kernel_rfl))))]
        left
        refine step_val (v := .string t) (w' := w') ?_ (hK _ _ (Below.refl _ _) (by intro d hd; cases hd; exact rfl) (by intro d hd hm; cases hd; exact absurd hm (by decide)))
        rw [← hev]
        clear hK hdeps hbase hev
        simp only [execOp, hec, hef, b1]
        go_simp
      refine ⟨?_, ?_⟩
      · intro a w' hB hsz hbase hdeps K hK
        obtain ⟨ev, hev⟩ : ∃ ev, ev = a.eval := ⟨_, rfl⟩
        have hec : ∀ v, ev (.const v) = v := fun v => by rw [hev]; rfl
        have hef : ∀ f, ev (.func f) = .func (.func f) #[] #[] := fun f => by rw [hev]; rfl
        rw [← hev] at hbase hdeps
        have d58 : ev (.tmp 58) = .string t := hdeps 58 (of_decide_eq_true (by kernel_rfl))
        rw [if_pos (wanted_of (j := 29) (b := true) (d := 53) rfl (by kernel_rfl) (by rw [← hev]; exact hdeps 53 (of_decide_eq_true (by kernel_rfl))))]
        left
        refine step_enter (w' := w') (f := 16) (args := #[.string t]) ?_ ?_
        · rw [← hev]
          clear hK hdeps hbase hev
          simp only [execOp, hec, hef, d58]
          go_simp
        · refine (HC.out.2.1 w').mono ?_
          rintro e W ⟨rfl, hb⟩
          exact ⟨_, rfl, hK _ _ hb (by intro d hd; cases hd; exact rfl) (by intro d hd hm; cases hd; exact absurd hm (by decide))⟩
      refine ⟨?_, ?_⟩
      · intro a w' hB hsz hbase hdeps K hK
        obtain ⟨ev, hev⟩ : ∃ ev, ev = a.eval := ⟨_, rfl⟩
        have hec : ∀ v, ev (.const v) = v := fun v => by rw [hev]; rfl
        have hef : ∀ f, ev (.func f) = .func (.func f) #[] #[] := fun f => by rw [hev]; rfl
        rw [← hev] at hbase hdeps
        have d57 : ev (.tmp 57) = .string sx := hdeps 57 (of_decide_eq_true (by kernel_rfl))
        have d59 : ev (.tmp 59) = .string y := hdeps 59 (of_decide_eq_true (by kernel_rfl))
        rw [if_pos (wanted_of (j := 29) (b := true) (d := 53) rfl (by kernel_rfl) (by rw [← hev]; exact hdeps 53 (of_decide_eq_true (by kernel_rfl))))]
        left
        have hq := HC.out.2.2.2.2.1
        refine step_val (v := .bool st) (w' := w') ?_ (hK _ _ (Below.refl _ _) (by intro d hd; cases hd; exact rfl) (by intro d hd hm; cases hd; exact absurd hm (by decide)))
        rw [← hev]
        clear hK hdeps hbase hev
        simp only [execOp, hec, hef, d57, d59]
        go_simp
      refine ⟨?_, ?_⟩
      · intro a w' hB hsz hbase hdeps K hK
        obtain ⟨ev, hev⟩ : ∃ ev, ev = a.eval := ⟨_, rfl⟩
        have hec : ∀ v, ev (.const v) = v := fun v => by rw [hev]; rfl
        have hef : ∀ f, ev (.func f) = .func (.func f) #[] #[] := fun f => by rw [hev]; rfl
        rw [← hev] at hbase hdeps
        have d56 : ev (.tmp 56) = .bool st := hdeps 56 (of_decide_eq_true (by kernel_rfl))
        have d60 : ev (.tmp 60) = .bool st := hdeps 60 (of_decide_eq_true (by kernel_rfl))
        rw [if_pos (wanted_of (j := 29) (b := true) (d := 53) rfl (by kernel_rfl) (by rw [← hev]; exact hdeps 53 (of_decide_eq_true (by kernel_rfl))))]
        left
        refine step_val (v := .bool true) (w' := w') ?_ (hK _ _ (Below.refl _ _) (by intro d hd; cases hd; exact rfl) (by intro d hd hm; cases hd; exact absurd hm (by decide)))
        rw [← hev]
        clear hK hdeps hbase hev
        simp only [execOp, hec, hef, d56, d60]
        go_simp
      refine ⟨?_, ?_⟩
      · intro a w' hB hsz hbase hdeps K hK
        obtain ⟨ev, hev⟩ : ∃ ev, ev = a.eval := ⟨_, rfl⟩
        have hec : ∀ v, ev (.const v) = v := fun v => by rw [hev]; rfl
        have hef : ∀ f, ev (.func f) = .func (.func f) #[] #[] := fun f => by rw [hev]; rfl
        rw [← hev] at hbase hdeps
        have d53 : ev (.tmp 53) = .bool true := hdeps 53 (of_decide_eq_true (by kernel_rfl))
        have d61 : ev (.tmp 61) = .bool true := hdeps 61 (of_decide_eq_true (by kernel_rfl))
        rw [if_pos (by kernel_rfl)]
        left
        refine step_val (v := .bool true) (w' := w') ?_ (hK _ _ (Below.refl _ _) (by intro d hd; cases hd; exact rfl) (by intro d hd hm; cases hd; exact absurd hm (by decide)))
        rw [← hev]
        clear hK hdeps hbase hev
        simp only [execOp, hec, hef, d53, d61]
        go_simp
      refine ⟨?_, ?_⟩
      · intro a w' hB hsz hbase hdeps K hK
        obtain ⟨ev, hev⟩ : ∃ ev, ev = a.eval := ⟨_, rfl⟩
        have hec : ∀ v, ev (.const v) = v := fun v => by rw [hev]; rfl
        have hef : ∀ f, ev (.func f) = .func (.func f) #[] #[] := fun f => by rw [hev]; rfl
        rw [← hev] at hbase hdeps
        have d62 : ev (.tmp 62) = .bool true := hdeps 62 (of_decide_eq_true (by kernel_rfl))
        rw [if_pos (by kernel_rfl)]
        left
        refine step_val (v := .bool true) (w' := w') ?_ (hK _ _ (Below.refl _ _) (by intro d hd; cases hd; exact rfl) (by intro d hd hm; cases hd; exact absurd hm (by decide)))
        rw [← hev]
        clear hK hdeps hbase hev
        simp only [execOp, hec, hef, d62]
        go_simp
      refine ⟨?_, ?_⟩
      · intro a w' hB hsz hbase hdeps K hK
        obtain ⟨ev, hev⟩ : ∃ ev, ev = a.eval := ⟨_, rfl⟩
        have hec : ∀ v, ev (.const v) = v := fun v => by rw [hev]; rfl
        have hef : ∀ f, ev (.func f) = .func (.func f) #[] #[] := fun f => by rw [hev]; rfl
        rw [← hev] at hbase hdeps
        rw [if_pos (wanted_of (j := 39) (b := true) (d := 63) rfl (by kernel_rfl) (by rw [← hev]; exact hdeps 63 (of_decide_eq_true (by kernel_rfl))))]
        left
        refine step_enter (w' := w') (f := 10) (args := #[]) ?_ ?_
        · rw [← hev]
          clear hK hdeps hbase hev
          simp only [execOp, hec, hef]
          go_simp
        · refine (lawake w' (HC.out.2.2.2.2.2.2.below (gr_call HF.out.2.2.2.2 hB) HC.out.2.2.2.2.2.2.lt)).mono ?_
          rintro e W ⟨rfl, hb⟩
          exact ⟨_, rfl, hK _ _ hb (by intro d hd; cases hd; exact rfl) (by intro d hd hm; cases hd; exact absurd hm (by decide))⟩
      refine ⟨?_, ?_⟩
      · intro a w' hB hsz hbase hdeps K hK
        obtain ⟨ev, hev⟩ : ∃ ev, ev = a.eval := ⟨_, rfl⟩
        have hec : ∀ v, ev (.const v) = v := fun v => by rw [hev]; rfl
        have hef : ∀ f, ev (.func f) = .func (.func f) #[] #[] := fun f => by rw [hev]; rfl
        rw [← hev] at hbase hdeps
        have d63 : ev (.tmp 63) = .bool true := hdeps 63 (of_decide_eq_true (by kernel_rfl))
        have d64 : ev (.tmp 64) = .bool true := hdeps 64 (of_decide_eq_true (by kernel_rfl))
        rw [if_pos (by kernel_rfl)]
        left
        refine step_val (v := .bool true) (w' := w') ?_ (hK _ _ (Below.refl _ _) (by intro d hd; cases hd; exact rfl) (by intro d hd hm; cases hd; exact absurd hm (by decide)))
        rw [← hev]
        clear hK hdeps hbase hev
        simp only [execOp, hec, hef, d63, d64]
        go_simp
      refine ⟨?_, ?_⟩
      · intro a w' hB hsz hbase hdeps K hK
        obtain ⟨ev, hev⟩ : ∃ ev, ev = a.eval := ⟨_, rfl⟩
        have hec : ∀ v, ev (.const v) = v := fun v => by rw [hev]; rfl
        have hef : ∀ f, ev (.func f) = .func (.func f) #[] #[] := fun f => by rw [hev]; rfl
        rw [← hev] at hbase hdeps
        have d65 : ev (.tmp 65) = .bool true := hdeps 65 (of_decide_eq_true (by kernel_rfl))
        rw [if_pos (by kernel_rfl)]
        left
        refine step_val (v := .bool true) (w' := w') ?_ (hK _ _ (Below.refl _ _) (by intro d hd; cases hd; exact rfl) (by intro d hd hm; cases hd; exact absurd hm (by decide)))
        rw [← hev]
        clear hK hdeps hbase hev
        simp only [execOp, hec, hef, d65]
        go_simp
      exact trivial

    case fin =>
      intro a X hB hsz hdef hbase hS _
      have v24 : a.eval (.tmp 24) = .agg #[.int .i64 0, .int .i64 0] := hS _ (List.mem_of_getElem? (i := 0) rfl) 24 rfl
      have v25 : a.eval (.tmp 25) = .agg #[.int .i64 0, .int .i64 0] := hS _ (List.mem_of_getElem? (i := 1) rfl) 25 rfl
      have v26 : a.eval (.tmp 26) = .bool true := hS _ (List.mem_of_getElem? (i := 2) rfl) 26 rfl
      have v27 : a.eval (.tmp 27) = .bool true := hS _ (List.mem_of_getElem? (i := 3) rfl) 27 rfl
      have v28 : a.eval (.tmp 28) = (.slice (some ⟨ab, ao, none⟩) 1 c) := hS _ (List.mem_of_getElem? (i := 4) rfl) 28 rfl
      have v29 : a.eval (.tmp 29) = .int .i64 1 := hS _ (List.mem_of_getElem? (i := 5) rfl) 29 rfl
      have v30 : a.eval (.tmp 30) = .bool true := hS _ (List.mem_of_getElem? (i := 6) rfl) 30 rfl
      have v31 : a.eval (.tmp 31) = .bool true := hS _ (List.mem_of_getElem? (i := 7) rfl) 31 rfl
      have v32 : a.eval (.tmp 32) = .bool true := hS _ (List.mem_of_getElem? (i := 8) rfl) 32 rfl
      have v33 : a.eval (.tmp 33) = (.slice (some ⟨ab, ao, none⟩) 1 c) := hS _ (List.mem_of_getElem? (i := 9) rfl) 33 rfl
      have v34 : a.eval (.tmp 34) = (.pointer (some ⟨ab, ao, none⟩)) := hS _ (List.mem_of_getElem? (i := 10) rfl) 34 rfl
      have v35 : a.eval (.tmp 35) = (.pointer (some ⟨ab, ao + 1, none⟩)) := hS _ (List.mem_of_getElem? (i := 11) rfl) 35 rfl
      have v36 : a.eval (.tmp 36) = (.slice B 1 cd) := hS _ (List.mem_of_getElem? (i := 12) rfl) 36 rfl
      have v37 : a.eval (.tmp 37) = .string s := hS _ (List.mem_of_getElem? (i := 13) rfl) 37 rfl
      have v38 : a.eval (.tmp 38) = .string s := hS _ (List.mem_of_getElem? (i := 14) rfl) 38 rfl
      have v39 : a.eval (.tmp 39) = .bool bw := hS _ (List.mem_of_getElem? (i := 15) rfl) 39 rfl
      have v40 : a.eval (.tmp 40) = .bool (!bw) := hS _ (List.mem_of_getElem? (i := 16) rfl) 40 rfl
      have v41 : a.eval (.tmp 41) = .agg #[.int .i64 0, .string s, .bool (!bw)] := hS _ (List.mem_of_getElem? (i := 17) rfl) 41 rfl
      obtain ⟨g42, v42, hg42⟩ := hS _ (List.mem_of_getElem? (i := 18) rfl) 42 rfl
      have v43 : a.eval (.tmp 43) = .bool true := hS _ (List.mem_of_getElem? (i := 19) rfl) 43 rfl
      have v44 : a.eval (.tmp 44) = .bool true := hS _ (List.mem_of_getElem? (i := 20) rfl) 44 rfl
      have v45 : a.eval (.tmp 45) = .bool true := hS _ (List.mem_of_getElem? (i := 21) rfl) 45 rfl
      have v46 : a.eval (.tmp 46) = .string s := hS _ (List.mem_of_getElem? (i := 22) rfl) 46 rfl
      have v47 : a.eval (.tmp 47) = .bool bw := hS _ (List.mem_of_getElem? (i := 23) rfl) 47 rfl
      have v48 : a.eval (.tmp 48) = .string sx := hS _ (List.mem_of_getElem? (i := 24) rfl) 48 rfl
      have v49 : a.eval (.tmp 49) = .string s := hS _ (List.mem_of_getElem? (i := 25) rfl) 49 rfl
      have v50 : a.eval (.tmp 50) = .bool bw := hS _ (List.mem_of_getElem? (i := 26) rfl) 50 rfl
      have v51 : a.eval (.tmp 51) = .bool true := hS _ (List.mem_of_getElem? (i := 27) rfl) 51 rfl
      have v52 : a.eval (.tmp 52) = .bool true := hS _ (List.mem_of_getElem? (i := 28) rfl) 52 rfl
      have v53 : a.eval (.tmp 53) = .bool true := hS _ (List.mem_of_getElem? (i := 29) rfl) 53 rfl
      have v54 : a.eval (.tmp 54) = .string s := hS _ (List.mem_of_getElem? (i := 30) rfl) 54 rfl
      have v55 : a.eval (.tmp 55) = .string t := hS _ (List.mem_of_getElem? (i := 31) rfl) 55 rfl
      have v56 : a.eval (.tmp 56) = .bool st := hS _ (List.mem_of_getElem? (i := 32) rfl) 56 rfl
      have v57 : a.eval (.tmp 57) = .string sx := hS _ (List.mem_of_getElem? (i := 33) rfl) 57 rfl
      have v58 : a.eval (.tmp 58) = .string t := hS _ (List.mem_of_getElem? (i := 34) rfl) 58 rfl
      have v59 : a.eval (.tmp 59) = .string y := hS _ (List.mem_of_getElem? (i := 35) rfl) 59 rfl
      have v60 : a.eval (.tmp 60) = .bool st := hS _ (List.mem_of_getElem? (i := 36) rfl) 60 rfl
      have v61 : a.eval (.tmp 61) = .bool true := hS _ (List.mem_of_getElem? (i := 37) rfl) 61 rfl
      have v62 : a.eval (.tmp 62) = .bool true := hS _ (List.mem_of_getElem? (i := 38) rfl) 62 rfl
      have v63 : a.eval (.tmp 63) = .bool true := hS _ (List.mem_of_getElem? (i := 39) rfl) 63 rfl
      have v64 : a.eval (.tmp 64) = .bool true := hS _ (List.mem_of_getElem? (i := 40) rfl) 64 rfl
      have v65 : a.eval (.tmp 65) = .bool true := hS _ (List.mem_of_getElem? (i := 41) rfl) 65 rfl
      have v4 : a.eval (.tmp 4) = .bool true := hS _ (List.mem_of_getElem? (i := 42) rfl) 4 rfl
      have ha := act_over [(24, .agg #[.int .i64 0, .int .i64 0]), (25, .agg #[.int .i64 0, .int .i64 0]), (26, .bool true), (27, .bool true), (28, (.slice (some ⟨ab, ao, none⟩) 1 c)), (29, .int .i64 1), (30, .bool true), (31, .bool true), (32, .bool true), (33, (.slice (some ⟨ab, ao, none⟩) 1 c)), (34, (.pointer (some ⟨ab, ao, none⟩))), (35, (.pointer (some ⟨ab, ao + 1, none⟩))), (36, (.slice B 1 cd)), (37, .string s), (38, .string s), (39, .bool bw), (40, .bool (!bw)), (41, .agg #[.int .i64 0, .string s, .bool (!bw)]), (42, .slice (some ⟨g42, 0, none⟩) 1 1), (43, .bool true), (44, .bool true), (45, .bool true), (46, .string s), (47, .bool bw), (48, .string sx), (49, .string s), (50, .bool bw), (51, .bool true), (52, .bool true), (53, .bool true), (54, .string s), (55, .string t), (56, .bool st), (57, .string sx), (58, .string t), (59, .string y), (60, .bool st), (61, .bool true), (62, .bool true), (63, .bool true), (64, .bool true), (65, .bool true), (4, .bool true)] hsz hdef hbase (by kernel_rfl) ⟨v24, v25, v26, v27, v28, v29, v30, v31, v32, v33, v34, v35, v36, v37, v38, v39, v40, v41, v42, v43, v44, v45, v46, v47, v48, v49, v50, v51, v52, v53, v54, v55, v56, v57, v58, v59, v60, v61, v62, v63, v64, v65, v4, trivial⟩
      clear hsz hdef hbase hS v24 v25 v26 v27 v28 v29 v30 v31 v32 v33 v34 v35 v36 v37 v38 v39 v40 v41 v42 v43 v44 v45 v46 v47 v48 v49 v50 v51 v52 v53 v54 v55 v56 v57 v58 v59 v60 v61 v62 v63 v64 v65 v4
      subst ha
      simp only [List.drop, putAll]
      have zX := Lib.hid (gr_call HF.out.2.2.2.2 hB)
      clear hB
      refine wpList_nil ?_
      simp (config := {decide := false}) only [Act.put, List.setIfInBounds_toArray, List.set_cons_zero, List.set_cons_succ]
      go_wp2_with (fail)
      go_ret
      exact ⟨rfl, zX.out⟩
end Go.Proofs.YtpicenopiigfpaaDoor
