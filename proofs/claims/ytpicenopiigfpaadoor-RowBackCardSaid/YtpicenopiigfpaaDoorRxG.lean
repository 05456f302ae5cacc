/-
  RowWrites, walked: it returns true, whatever the rows; condition: the variable ErrSyntax holds an interface value.
-/
import Derived.Test.YtpicenopiigfpaaDoorRxD
import Derived.Test.YtpicenopiigfpaaDoorRxE
import Derived.Test.YtpicenopiigfpaaDoorRxF
import Derived.Test.YtpicenopiigfpaaDoorRwN
import Derived.Test.YtpicenopiigfpaaDoorRwO
namespace Go.Proofs.YtpicenopiigfpaaDoor
open Go.RowKit
set_option linter.unusedVariables false
set_option linter.unusedSimpArgs false

theorem light_yes {rs : List Rw} (h : lightB rs = true) : rs.length ≤ 300 ∧ ∀ r ∈ rs, r.w.length ≤ 60 ∧ ∀ d ∈ r.w, d.t.size ≤ 1100 := by
  unfold lightB at h
  rw [Bool.and_eq_true, decide_eq_true_eq, List.all_eq_true] at h
  refine ⟨h.1, fun r hr => ?_⟩
  have h2 := h.2 r hr
  unfold okR at h2
  rw [Bool.and_eq_true, decide_eq_true_eq, List.all_eq_true] at h2
  exact ⟨h2.1, fun d hd => by simpa using h2.2 d hd⟩

set_option maxRecDepth 100000 in
set_option maxHeartbeats 4000000 in
theorem law_writes (rs : List Rw) (v : Value) (w : World) (hv : RowsIn w v rs) (hE : ErrV w 0) :
    Calls Tryd.prog 6 #[v] w fun e W' => e = .returned (.bool true) ∧ Below w.heap.size w W' := by
  have HE := Lib.hid (And.intro hE hv)
  clear hE
  obtain ⟨A, c, vs, rfl, _⟩ := hv
  cases hb : lightB rs
  · have hli := llight rs _ w HE.out.2
    rw [hb] at hli
    have HL := Lib.hid hli
    clear hli hb
    go_enter Tryd.func6, Tryd.ntmps6
    go_wp2_with (fail)
    refine HL.out.mono ?_
    rintro e W1 ⟨rfl, rfl⟩
    go_wp2_with (fail)
    refine (lawake _ HE.out.1).mono ?_
    rintro e W1 ⟨rfl, h1⟩
    have H1 := Lib.hid h1
    clear h1
    go_wp2_with (fail)
    go_ret
    exact ⟨rfl, H1.out⟩
  · have hli := llight rs _ w HE.out.2
    rw [hb] at hli
    obtain ⟨hn, hr⟩ := light_yes hb
    obtain ⟨tv, htv⟩ : ∃ t, t = textF (txR rs) [] := ⟨_, rfl⟩
    have h1 := lown rs (by omega) (fun r h => by have := (hr r h).1; omega) _ w HE.out.2
    have h2 := fun u W hu => wText rs (by omega) (fun r h => ⟨by have := (hr r h).1; omega, fun d hd => by have := (hr r h).2 d hd; omega⟩) u W hu
    have h3 := fun u W hu => rText rs (by omega) (fun r h => ⟨by have := (hr r h).1; omega, fun d hd => by have := (hr r h).2 d hd; omega⟩) u W hu
    have h4 := fun u x W hu hx => lsame rs (by omega) (fun r h => by have := (hr r h).1; omega) u x W hu hx
    rw [← htv] at h2 h3
    obtain ⟨t1, t2⟩ := tv
    have HL := Lib.hid (And.intro hli (And.intro h1 (And.intro h2 (And.intro h3 h4))))
    clear hli hb h1 h2 h3 h4 htv hr
    go_enter Tryd.func6, Tryd.ntmps6
    go_wp2_with (fail)
    refine HL.out.1.mono ?_
    rintro e W1 ⟨rfl, rfl⟩
    go_wp2_with (fail)
    refine HL.out.2.1.mono ?_
    rintro e W1 ⟨u, rfl, o1, g1⟩
    obtain ⟨ua, uc, rfl⟩ := o1.slice
    have H1 := Lib.hid (And.intro o1.in_ g1)
    clear o1 g1
    go_wp2_with (fail)
    refine (HL.out.2.2.1 _ _ H1.out.1).mono ?_
    unfold textV
    rintro e W2 ⟨rfl, g2⟩
    have B2 := gr_call H1.out.2 g2
    have H2 := Lib.hid (And.intro (H1.out.1.below g2) (And.intro (HE.out.2.below B2) B2))
    clear g2 B2
    go_wp2_with (fail)
    refine (HL.out.2.2.2.1 _ _ H2.out.2.1).mono ?_
    unfold textV
    rintro e W3 ⟨rfl, g3⟩
    have H3 := Lib.hid (And.intro (H2.out.1.below g3) (And.intro (H2.out.2.1.below g3) (gr_call H2.out.2.2 g3)))
    clear g3
    go_wp2_with (fail)
    refine (HL.out.2.2.2.2 _ _ _ H3.out.1 H3.out.2.1).mono ?_
    rintro e W4 ⟨rfl, g4⟩
    have B4 := gr_call H3.out.2.2 g4
    have H4 := Lib.hid (And.intro B4 (HE.out.1.below B4 HE.out.1.lt))
    clear g4 B4
    go_wp2_with (fail)
    refine (lawake _ H4.out.2).mono ?_
    rintro e W5 ⟨rfl, g5⟩
    have H5 := Lib.hid (gr_call H4.out.1 g5)
    clear g5
    go_wp2_with (fail)
    go_ret
    exact ⟨rfl, H5.out⟩
end Go.Proofs.YtpicenopiigfpaaDoor
