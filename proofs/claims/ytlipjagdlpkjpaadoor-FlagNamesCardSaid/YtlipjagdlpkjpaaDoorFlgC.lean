/-
  flag.Check and its reference, walked: the plain function; condition: the two tables lie as they are laid.
-/
import Derived.Test.YtlipjagdlpkjpaaDoorFlgB
namespace Go.Proofs.YtlipjagdlpkjpaaDoor
open Go.RowKit Go.Joins
set_option linter.unusedVariables false
set_option linter.unusedSimpArgs false

theorem chk_num {f : Flg} (h : f.skip < 0 ∨ 64 ≤ f.skip ∨ (codeR f.red || f.red == 0) = false) : chkF f = 2 := by
  unfold chkF
  rw [if_pos]
  unfold badNum
  rcases h with h | h | h
  · rw [decide_eq_true h]; rfl
  · rw [decide_eq_true (p := 64 ≤ f.skip) h]; simp
  · rw [h]; simp
theorem chk_way {f : Flg} (h0 : 0 ≤ f.skip) (h1 : f.skip < 64) (h2 : (codeR f.red || f.red == 0) = true) : chkF f = if badWay f then 15 else 0 := by
  unfold chkF
  rw [if_neg]
  unfold badNum
  rw [decide_eq_false (by omega), decide_eq_false (p := 64 ≤ f.skip) (by omega), h2]
  simp

set_option maxRecDepth 100000 in
set_option maxHeartbeats 4000000 in
theorem fcheck (f : Flg) (hb : (-9223372036854775808 ≤ f.skip ∧ f.skip ≤ 9223372036854775807)) (w : World) (hT : Tabs w) :
    Calls Tryd.prog 18 #[Value.agg #[Value.bool f.last, .bool f.next, .bool f.chain, .bool f.fin, .bool f.forb, .bool f.gone, .bool f.app, .bool f.disc, .int .i64 f.skip, .int .i64 f.red]] w fun e W' => e = .returned (.int .i64 (chkF f)) ∧ Below w.heap.size w W' := by
  have HT := Lib.hid hT
  have i0 := gr_alloc (Below.refl w.heap.size w) (.cells #[Value.bool f.last, .bool f.next, .bool f.chain, .bool f.fin, .bool f.forb, .bool f.gone, .bool f.app, .bool f.disc, .int .i64 f.skip, .int .i64 f.red] 24)
  have f0 := Blk.new w 24 #[Value.bool f.last, .bool f.next, .bool f.chain, .bool f.fin, .bool f.forb, .bool f.gone, .bool f.app, .bool f.disc, .int .i64 f.skip, .int .i64 f.red]
  have H0 := Lib.hid (And.intro f0 i0)
  clear hT f0 i0
  by_cases h1 : f.skip < 0
  · go_enter Tryd.func18, Tryd.ntmps18
    go_wp2_with (fail)
    go_ret
    exact ⟨ret_int (chk_num (Or.inl h1)).symm, H0.out.2⟩
  by_cases h2 : 64 ≤ f.skip
  · go_enter Tryd.func18, Tryd.ntmps18
    go_wp2_with (fail)
    go_ret
    exact ⟨ret_int (chk_num (Or.inr (Or.inl h2))).symm, H0.out.2⟩
  go_enter Tryd.func18, Tryd.ntmps18
  go_wp2_with (fail)
  refine (fcode f.red _ (HT.out.below H0.out.2 (Nat.le_refl _))).mono ?_
  rintro e W1 ⟨rfl, rfl⟩
  cases hc : (codeR f.red || f.red == 0) with
  | false =>
    have HC := Lib.hid hc
    clear hc
    go_wp2_with (fail)
    go_ret
    exact ⟨ret_int (chk_num (Or.inr (Or.inr HC.out))).symm, H0.out.2⟩
  | true =>
    have HC := Lib.hid hc
    clear hc
    go_wp2_with (fail)
    refine (fways f ⟨by omega, by omega⟩ HC.out _ (HT.out.below H0.out.2 (Nat.le_refl _))).mono ?_
    rintro e W2 ⟨v, rfl, hown, h2w⟩
    obtain ⟨va, vc, rfl⟩ := own_slice hown
    have hblk := H0.out.1.call h2w
    have hbel := gr_call H0.out.2 h2w
    have hl := waysL_len f
    rw [hl]
    have hcw := chk_way (f := f) (by omega) (by omega) HC.out
    clear hown h2w
    have k4 := hblk.cell' (i := 4) rfl
    have k5 := hblk.cell' (i := 5) rfl
    have k6 := hblk.cell' (i := 6) rfl
    have k7 := hblk.cell' (i := 7) rfl
    have hlt := hblk.lt
    have H := Lib.hid (And.intro hcw hbel)
    clear hcw hbel hblk hl
    generalize hn : endN f 8 = n
    generalize happ : f.app = ba at k6
    generalize hdis : f.disc = bd at k7
    generalize hfo : f.forb = bf at k4
    generalize hgo : f.gone = bg at k5
    have HB := Lib.hid (And.intro hn (And.intro happ (And.intro hdis (And.intro hfo hgo))))
    clear hn happ hdis hfo hgo
    by_cases hn1 : 1 < n
    · have hnb : ((1 : Int) < (n : Int)) := by omega
      go_wp2_with (fail)
      go_ret
      refine ⟨ret_int ?_, H.out.2⟩
      rw [H.out.1, if_pos]
      unfold badWay
      rw [HB.out.1, decide_eq_true hn1]; rfl
    · have hnb : ¬ ((1 : Int) < (n : Int)) := by omega
      cases ba <;> cases bd <;> cases bf <;> cases bg
      all_goals (
        go_wp2_with (fail)
        go_ret
        refine ⟨ret_int ?_, H.out.2⟩
        rw [H.out.1]
        unfold badWay
        rw [HB.out.1, HB.out.2.1, HB.out.2.2.1, HB.out.2.2.2.1, HB.out.2.2.2.2, decide_eq_false hn1]
        rfl)
end Go.Proofs.YtlipjagdlpkjpaaDoor
