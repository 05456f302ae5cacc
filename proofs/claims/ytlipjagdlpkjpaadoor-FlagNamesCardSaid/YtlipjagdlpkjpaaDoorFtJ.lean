/-
  flag.Ends and Still, walked; condition: the two tables lie as they are laid.
-/
import Derived.Test.YtlipjagdlpkjpaaDoorFtI
namespace Go.Proofs.YtlipjagdlpkjpaaDoor
open Go.RowKit
set_option linter.unusedVariables false
set_option linter.unusedSimpArgs false

/-- The way to end. -/
def endsV (f : Flg) : ByteArray := if chkF f = 0 then (waysL f).getD 0 ⟨#[]⟩ else ⟨#[]⟩
def stillB (f : Flg) : Bool := decide (chkF f = 0) && (decide (endsV f = ⟨#[]⟩) || decide (endsV f = ⟨#[67]⟩))
theorem endsV_size (f : Flg) : (endsV f).size ≤ 102 := by
  unfold endsV
  by_cases h : chkF f = 0
  · rw [if_pos h]
    cases hl : waysL f with
    | nil => exact Nat.zero_le _
    | cons x r =>
      have hm : x ∈ waysL f := by rw [hl]; simp
      unfold waysL at hm
      rw [List.append_assoc] at hm
      rcases List.mem_append.1 hm with h1 | h1
      · have := wayL_size f 6 x h1; show x.size ≤ 102; omega
      · exact skip_size h x h1
  · rw [if_neg h]; exact Nat.zero_le _

set_option maxRecDepth 100000 in
set_option maxHeartbeats 2000000 in
theorem fends (f : Flg) (hb : (-9223372036854775808 ≤ f.skip ∧ f.skip ≤ 9223372036854775807)) (w : World) (hT : Tabs w) :
    Calls Tryd.prog 14 #[Value.agg #[Value.bool f.last, .bool f.next, .bool f.chain, .bool f.fin, .bool f.forb, .bool f.gone, .bool f.app, .bool f.disc, .int .i64 f.skip, .int .i64 f.red]] w fun e W' => e = .returned (.tuple #[.string (endsV f), .int .i64 (chkF f)]) ∧ Below w.heap.size w W' := by
  have HT := Lib.hid hT
  have i0 := gr_alloc (Below.refl w.heap.size w) (.cells #[Value.bool f.last, .bool f.next, .bool f.chain, .bool f.fin, .bool f.forb, .bool f.gone, .bool f.app, .bool f.disc, .int .i64 f.skip, .int .i64 f.red] 24)
  have f0 := Blk.new w 24 #[Value.bool f.last, .bool f.next, .bool f.chain, .bool f.fin, .bool f.forb, .bool f.gone, .bool f.app, .bool f.disc, .int .i64 f.skip, .int .i64 f.red]
  have H0 := Lib.hid (And.intro f0 i0)
  clear hT f0 i0
  go_enter Tryd.func14, Tryd.ntmps14
  go_wp2_with (fail)
  refine (fcheck f hb _ (HT.out.below H0.out.2 (Nat.le_refl _))).mono ?_
  rintro e W1 ⟨rfl, h1⟩
  have H1 := Lib.hid (And.intro (H0.out.1.call h1) (gr_call H0.out.2 h1))
  clear h1 H0
  obtain ⟨ce, hce⟩ : ∃ ce, ce = chkF f := ⟨_, rfl⟩
  have HC := Lib.hid hce
  rw [← hce]
  clear hce
  by_cases hc0 : ce = 0
  · have q : (ce != 0) = false := by simp; exact hc0
    have hC : chkF f = 0 := HC.out.symm.trans hc0
    obtain ⟨z1, z2, z3, z4⟩ := chkF_zero hC
    have HZ := Lib.hid (And.intro hC z3)
    clear hc0 hC z3 z4
    have k0 : W1.cell? ⟨w.heap.size, 0, none⟩ = some (.bool f.last) := H1.out.1.cell' (i := 0) rfl
    have k1 : W1.cell? ⟨w.heap.size, 1, none⟩ = some (.bool f.next) := H1.out.1.cell' (i := 1) rfl
    have k2 : W1.cell? ⟨w.heap.size, 2, none⟩ = some (.bool f.chain) := H1.out.1.cell' (i := 2) rfl
    have k3 : W1.cell? ⟨w.heap.size, 3, none⟩ = some (.bool f.fin) := H1.out.1.cell' (i := 3) rfl
    have k4 : W1.cell? ⟨w.heap.size, 4, none⟩ = some (.bool f.forb) := H1.out.1.cell' (i := 4) rfl
    have k5 : W1.cell? ⟨w.heap.size, 5, none⟩ = some (.bool f.gone) := H1.out.1.cell' (i := 5) rfl
    have k6 : W1.cell? ⟨w.heap.size, 6, none⟩ = some (.bool f.app) := H1.out.1.cell' (i := 6) rfl
    have k7 : W1.cell? ⟨w.heap.size, 7, none⟩ = some (.bool f.disc) := H1.out.1.cell' (i := 7) rfl
    have k8 : W1.cell? ⟨w.heap.size, 8, none⟩ = some (.int .i64 f.skip) := H1.out.1.cell' (i := 8) rfl
    have k9 : W1.cell? ⟨w.heap.size, 9, none⟩ = some (.int .i64 f.red) := H1.out.1.cell' (i := 9) rfl
    have klt := H1.out.1.lt
    go_wp2_with (fail)
    refine (fways f ⟨z1, z2⟩ HZ.out.2 _ (HT.out.below H1.out.2 (Nat.le_refl _))).mono ?_
    rintro e W2 ⟨v, rfl, hown, h2w⟩
    clear k0 k1 k2 k3 k4 k5 k6 k7 k8 k9 klt
    obtain ⟨l, hl⟩ : ∃ l, l = waysL f := ⟨_, rfl⟩
    rw [← hl] at hown
    have HB := Lib.hid (And.intro hl (gr_call H1.out.2 h2w))
    clear hl h2w
    obtain ⟨va, vcap, rfl⟩ := own_slice hown
    by_cases h0 : 0 < l.length
    · obtain ⟨g, cap, hgv, hgN, hgl, hgc⟩ := own_form hown h0
      obtain ⟨rfl, rfl⟩ : va = some ⟨g, 0, none⟩ ∧ vcap = cap := by simpa using hgv
      have hc : W2.cell? ⟨g, 0, none⟩ = some (.string (l.getD 0 ⟨#[]⟩)) := by
        have := hown.cells (g := g) rfl 0 (.string (l.getD 0 ⟨#[]⟩)) (by rw [List.getElem?_map, List.getD_eq_getElem?_getD, List.getElem?_eq_getElem h0]; rfl)
        rw [Addr.add_lit] at this
        exact this
      obtain ⟨x, hx⟩ : ∃ x, x = l.getD 0 ⟨#[]⟩ := ⟨_, rfl⟩
      have HX := Lib.hid hx
      rw [← hx] at hc
      have h1 : (0 : Int) < (l.length : Int) := by omega
      clear hown hgv hx
      go_wp2_with (fail)
      go_ret2
      exact ⟨by unfold endsV; rw [if_pos HZ.out.1, HZ.out.1, ← HB.out.1, ← HX.out] <;> rfl, HB.out.2⟩
    · have h1 : ¬ (0 : Int) < (l.length : Int) := by omega
      have HL := Lib.hid (List.eq_nil_of_length_eq_zero (show l.length = 0 by omega))
      clear hown h0
      go_wp2_with (fail)
      go_ret2
      exact ⟨by unfold endsV; rw [if_pos HZ.out.1, HZ.out.1, ← HB.out.1, HL.out] <;> rfl, HB.out.2⟩
  · have q : (ce != 0) = true := by simp; exact hc0
    have ht : Hid (endsV f = ⟨#[]⟩) := Lib.hid (by unfold endsV; rw [if_neg (by rw [← HC.out]; exact hc0)])
    clear hc0
    go_wp2_with (fail)
    go_ret2
    exact ⟨by rw [ht.out, ← HC.out] <;> rfl, H1.out.2⟩

set_option maxRecDepth 100000 in
set_option maxHeartbeats 2000000 in
theorem fstill (f : Flg) (hb : (-9223372036854775808 ≤ f.skip ∧ f.skip ≤ 9223372036854775807)) (w : World) (hT : Tabs w) :
    Calls Tryd.prog 16 #[Value.agg #[Value.bool f.last, .bool f.next, .bool f.chain, .bool f.fin, .bool f.forb, .bool f.gone, .bool f.app, .bool f.disc, .int .i64 f.skip, .int .i64 f.red]] w fun e W' => e = .returned (.tuple #[.bool (stillB f), .int .i64 (chkF f)]) ∧ Below w.heap.size w W' := by
  have HT := Lib.hid hT
  have i0 := gr_alloc (Below.refl w.heap.size w) (.cells #[Value.bool f.last, .bool f.next, .bool f.chain, .bool f.fin, .bool f.forb, .bool f.gone, .bool f.app, .bool f.disc, .int .i64 f.skip, .int .i64 f.red] 24)
  have H0 := Lib.hid i0
  clear hT i0
  go_enter Tryd.func16, Tryd.ntmps16
  go_wp2_with (fail)
  refine (fends f hb _ (HT.out.below H0.out (Nat.le_refl _))).mono ?_
  rintro e W1 ⟨rfl, h1⟩
  have H1 := Lib.hid (gr_call H0.out h1)
  clear h1
  obtain ⟨ce, hce⟩ : ∃ ce, ce = chkF f := ⟨_, rfl⟩
  obtain ⟨x, hx⟩ : ∃ x, x = endsV f := ⟨_, rfl⟩
  have HC := Lib.hid (And.intro hce hx)
  have hb0 := beq_lit x []
  have hb1 := beq_lit x [67]
  rw [← hce, ← hx]
  have hsb : Hid (stillB f = (decide (ce = 0) && (decide (x = ⟨#[]⟩) || decide (x = ⟨#[67]⟩)))) := Lib.hid (by unfold stillB; rw [hce, hx])
  clear hce hx
  by_cases hc0 : ce = 0
  · have q : (ce == 0) = true := by simp; exact hc0
    have HQ := Lib.hid hc0
    clear hc0
    by_cases h0 : x = ⟨#[]⟩
    · have HX := Lib.hid h0
      rw [decide_eq_true (show x = ⟨([] : List UInt8).toArray⟩ from h0)] at hb0
      clear h0
      go_wp2_with (fail)
      go_ret2
      exact ⟨by rw [hsb.out, ← HC.out.1, decide_eq_true HQ.out, decide_eq_true HX.out] <;> rfl, H1.out⟩
    · have HX := Lib.hid h0
      rw [decide_eq_false (show ¬ x = ⟨([] : List UInt8).toArray⟩ from h0)] at hb0
      clear h0
      by_cases h2 : x = ⟨#[67]⟩
      · have HY := Lib.hid h2
        rw [decide_eq_true (show x = ⟨([67] : List UInt8).toArray⟩ from h2)] at hb1
        clear h2
        go_wp2_with (fail)
        go_ret2
        exact ⟨by rw [hsb.out, ← HC.out.1, decide_eq_true HQ.out, decide_eq_false HX.out, decide_eq_true HY.out] <;> rfl, H1.out⟩
      · have HY := Lib.hid h2
        rw [decide_eq_false (show ¬ x = ⟨([67] : List UInt8).toArray⟩ from h2)] at hb1
        clear h2
        go_wp2_with (fail)
        go_ret2
        exact ⟨by rw [hsb.out, ← HC.out.1, decide_eq_true HQ.out, decide_eq_false HX.out, decide_eq_false HY.out] <;> rfl, H1.out⟩
  · have q : (ce == 0) = false := by simp; exact hc0
    have HQ := Lib.hid hc0
    clear hc0
    go_wp2_with (fail)
    go_ret2
    exact ⟨by rw [hsb.out, ← HC.out.1, decide_eq_false HQ.out] <;> rfl, H1.out⟩
end Go.Proofs.YtlipjagdlpkjpaaDoor
