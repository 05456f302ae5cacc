/-
  The reference's Check of flags, walked: the same plain function; no condition.
-/
import Derived.Test.YtlipjagdlpkjpaaDoorFlgD
namespace Go.Proofs.YtlipjagdlpkjpaaDoor
open Go.RowKit Go.Joins
set_option linter.unusedVariables false
set_option linter.unusedSimpArgs false

set_option maxRecDepth 100000 in
set_option maxHeartbeats 8000000 in
theorem rcheck (f : Flg) (hb : (-9223372036854775808 ≤ f.skip ∧ f.skip ≤ 9223372036854775807)) (w : World) :
    Calls Tryd.prog 19 #[Value.agg #[Value.bool f.last, .bool f.next, .bool f.chain, .bool f.fin, .bool f.forb, .bool f.gone, .bool f.app, .bool f.disc, .int .i64 f.skip, .int .i64 f.red]] w fun e W' => e = .returned (.int .i64 (chkF f)) ∧ Below w.heap.size w W' := by
  have i0 := gr_alloc (Below.refl w.heap.size w) (.cells #[Value.bool f.last, .bool f.next, .bool f.chain, .bool f.fin, .bool f.forb, .bool f.gone, .bool f.app, .bool f.disc, .int .i64 f.skip, .int .i64 f.red] 24)
  have f0 := Blk.new w 24 #[Value.bool f.last, .bool f.next, .bool f.chain, .bool f.fin, .bool f.forb, .bool f.gone, .bool f.app, .bool f.disc, .int .i64 f.skip, .int .i64 f.red]
  have H0 := Lib.hid (And.intro f0 i0)
  clear f0 i0
  by_cases h1 : f.skip < 0
  · go_enter Tryd.func19, Tryd.ntmps19
    go_wp2_with (fail)
    go_ret
    exact ⟨ret_int (chk_num (Or.inl h1)).symm, H0.out.2⟩
  by_cases h2 : 64 ≤ f.skip
  · go_enter Tryd.func19, Tryd.ntmps19
    go_wp2_with (fail)
    go_ret
    exact ⟨ret_int (chk_num (Or.inr (Or.inl h2))).symm, H0.out.2⟩
  by_cases h3 : f.red = 0
  · have hc : (codeR f.red || f.red == 0) = true := by rw [h3]; rfl
    have hcw := Lib.hid (chk_way (f := f) (by omega) (by omega) hc)
    clear hc
    have hrb : (f.red != 0) = false := by rw [h3]; rfl
    have H3 := Lib.hid h3
    clear h3
    go_enter Tryd.func19, Tryd.ntmps19
    go_wp2_with (fail)
    refine (rends f _).mono ?_
    rintro e W2 ⟨rfl, h2w⟩
    clear hrb
    have H2 := Lib.hid (And.intro (H0.out.1.call h2w) (gr_call H0.out.2 h2w))
    clear h2w H0
    have k4 := H2.out.1.cell' (i := 4) rfl
    have k5 := H2.out.1.cell' (i := 5) rfl
    have k6 := H2.out.1.cell' (i := 6) rfl
    have k7 := H2.out.1.cell' (i := 7) rfl
    have hlt := H2.out.1.lt
    have hle := endN_le f 8
    have H := Lib.hid (And.intro hcw.out H2.out.2)
    clear hcw H2
    generalize hn : endN f 8 = n at hle
    generalize happ : f.app = ba at k6
    generalize hdis : f.disc = bd at k7
    generalize hfo : f.forb = bf at k4
    generalize hgo : f.gone = bg at k5
    have HB := Lib.hid (And.intro hn (And.intro happ (And.intro hdis (And.intro hfo hgo))))
    clear hn happ hdis hfo hgo
    by_cases hn1 : 1 < n
    · have hnb : ((1 : Int) < (n : Int)) := by omega
      go_wp2_with (fail)
      go_ret
      refine ⟨ret_int ?_, H.out.2⟩
      rw [H.out.1, if_pos]
      unfold badWay
      rw [HB.out.1, decide_eq_true hn1]; rfl
    · have hnb : ¬ ((1 : Int) < (n : Int)) := by omega
      cases ba <;> cases bd <;> cases bf <;> cases bg
      all_goals (
        go_wp2_with (fail)
        go_ret
        refine ⟨ret_int ?_, H.out.2⟩
        rw [H.out.1]
        unfold badWay
        rw [HB.out.1, HB.out.2.1, HB.out.2.2.1, HB.out.2.2.2.1, HB.out.2.2.2.2, decide_eq_false hn1]
        rfl)
  · cases hc : codeR f.red with
    | false =>
      have hcc : (codeR f.red || f.red == 0) = false := by rw [hc, beq_eq_false_iff_ne.2 h3]; rfl
      have HC := Lib.hid hcc
      have hcq := rcode f.red
      rw [hc] at hcq
      clear hcc hc
      have hrb : (f.red != 0) = true := by simpa using h3
      clear h3
      go_enter Tryd.func19, Tryd.ntmps19
      go_wp2_with (fail)
      refine (hcq _).mono ?_
      rintro e W1 ⟨rfl, hW1⟩
      have H1 := Lib.hid (And.intro (H0.out.1.call hW1) (gr_call H0.out.2 hW1))
      clear hW1 hcq H0
      go_wp2_with (fail)
      go_ret
      exact ⟨ret_int (chk_num (Or.inr (Or.inr HC.out))).symm, H1.out.2⟩
    | true =>
      have hcc : (codeR f.red || f.red == 0) = true := by rw [hc]; rfl
      have hcw := Lib.hid (chk_way (f := f) (by omega) (by omega) hcc)
      have hcq := rcode f.red
      rw [hc] at hcq
      clear hcc hc
      have hrb : (f.red != 0) = true := by simpa using h3
      clear h3
      go_enter Tryd.func19, Tryd.ntmps19
      go_wp2_with (fail)
      refine (hcq _).mono ?_
      rintro e W1 ⟨rfl, hW1⟩
      have H1 := Lib.hid (And.intro (H0.out.1.call hW1) (gr_call H0.out.2 hW1))
      clear H0 hW1
      have k0 := H1.out.1.cell' (i := 0) rfl
      have k1 := H1.out.1.cell' (i := 1) rfl
      have k2 := H1.out.1.cell' (i := 2) rfl
      have k3 := H1.out.1.cell' (i := 3) rfl
      have k4 := H1.out.1.cell' (i := 4) rfl
      have k5 := H1.out.1.cell' (i := 5) rfl
      have k6 := H1.out.1.cell' (i := 6) rfl
      have k7 := H1.out.1.cell' (i := 7) rfl
      have k8 := H1.out.1.cell' (i := 8) rfl
      have k9 := H1.out.1.cell' (i := 9) rfl
      have klt := H1.out.1.lt
      clear hcq hrb
      go_wp2_with (fail)
      refine (rends f _).mono ?_
      rintro e W2 ⟨rfl, h2w⟩
      have H2 := Lib.hid (And.intro (H1.out.1.call h2w) (gr_call H1.out.2 h2w))
      clear k0 k1 k2 k3 k4 k5 k6 k7 k8 k9 klt h2w H1
      have k4 := H2.out.1.cell' (i := 4) rfl
      have k5 := H2.out.1.cell' (i := 5) rfl
      have k6 := H2.out.1.cell' (i := 6) rfl
      have k7 := H2.out.1.cell' (i := 7) rfl
      have hlt := H2.out.1.lt
      have hle := endN_le f 8
      have H := Lib.hid (And.intro hcw.out H2.out.2)
      clear hcw H2
      generalize hn : endN f 8 = n at hle
      generalize happ : f.app = ba at k6
      generalize hdis : f.disc = bd at k7
      generalize hfo : f.forb = bf at k4
      generalize hgo : f.gone = bg at k5
      have HB := Lib.hid (And.intro hn (And.intro happ (And.intro hdis (And.intro hfo hgo))))
      clear hn happ hdis hfo hgo
      by_cases hn1 : 1 < n
      · have hnb : ((1 : Int) < (n : Int)) := by omega
        go_wp2_with (fail)
        go_ret
        refine ⟨ret_int ?_, H.out.2⟩
        rw [H.out.1, if_pos]
        unfold badWay
        rw [HB.out.1, decide_eq_true hn1]; rfl
      · have hnb : ¬ ((1 : Int) < (n : Int)) := by omega
        cases ba <;> cases bd <;> cases bf <;> cases bg
        all_goals (
          go_wp2_with (fail)
          go_ret
          refine ⟨ret_int ?_, H.out.2⟩
          rw [H.out.1]
          unfold badWay
          rw [HB.out.1, HB.out.2.1, HB.out.2.2.1, HB.out.2.2.2.1, HB.out.2.2.2.2, decide_eq_false hn1]
          rfl)
end Go.Proofs.YtlipjagdlpkjpaaDoor
