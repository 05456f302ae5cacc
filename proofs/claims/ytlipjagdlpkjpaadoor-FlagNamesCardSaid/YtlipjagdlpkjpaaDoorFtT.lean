/-
  The reference's Still, Codes of both, reads, fails, awake, walked; conditions: the two tables lie as they are laid, a variable of the library is an int.
-/
import Derived.Test.YtlipjagdlpkjpaaDoorFtS
import Derived.Test.YtlipjagdlpkjpaaDoorFtO
import Derived.Test.YtlipjagdlpkjpaaDoorFtQ
import Derived.Test.YtlipjagdlpkjpaaDoorSmI
namespace Go.Proofs.YtlipjagdlpkjpaaDoor
open Go.RowKit Go.Joins
set_option linter.unusedVariables false
set_option linter.unusedSimpArgs false

/-- The first way to end. -/
theorem first_way (f : Flg) : (waysL f).getD 0 ⟨#[]⟩ = if f.last then ⟨#[76]⟩ else if f.next then ⟨#[78]⟩ else if f.chain then ⟨#[67]⟩ else if f.fin then ⟨#[69]⟩ else if f.forb then ⟨#[70]⟩ else if f.gone then ⟨#[71]⟩ else (skipL f ++ redL f).getD 0 ⟨#[]⟩ := by
  obtain ⟨l0, l1, l2, l3, l4, l5, l6, l7, sk, rd⟩ := f
  have hw : waysL ⟨l0, l1, l2, l3, l4, l5, l6, l7, sk, rd⟩ = (([] ++ (if l0 then [⟨#[76]⟩] else []) ++ (if l1 then [⟨#[78]⟩] else []) ++ (if l2 then [⟨#[67]⟩] else []) ++ (if l3 then [⟨#[69]⟩] else []) ++ (if l4 then [⟨#[70]⟩] else []) ++ (if l5 then [⟨#[71]⟩] else []) : List ByteArray) ++ (skipL ⟨l0, l1, l2, l3, l4, l5, l6, l7, sk, rd⟩ ++ redL ⟨l0, l1, l2, l3, l4, l5, l6, l7, sk, rd⟩)) := by
    unfold waysL
    rw [List.append_assoc]
    rfl
  rw [hw]
  generalize skipL ⟨l0, l1, l2, l3, l4, l5, l6, l7, sk, rd⟩ ++ redL ⟨l0, l1, l2, l3, l4, l5, l6, l7, sk, rd⟩ = r
  cases l0 <;> cases l1 <;> cases l2 <;> cases l3 <;> cases l4 <;> cases l5 <;> simp
theorem behind_two (f : Flg) : (skipL f ++ redL f).getD 0 ⟨#[]⟩ = ⟨#[]⟩ ∧ (f.skip == 0) = true ∧ (f.red == 0) = true ∨ 2 ≤ ((skipL f ++ redL f).getD 0 ⟨#[]⟩).size ∧ ¬ ((f.skip == 0) = true ∧ (f.red == 0) = true) := by
  unfold skipL redL
  by_cases hs : f.skip = 0
  · by_cases hr : f.red = 0
    · left; rw [if_pos hs, if_pos hr, hs, hr]; exact ⟨rfl, rfl, rfl⟩
    · right
      rw [if_pos hs, if_neg hr, List.nil_append, List.getD_cons_zero, ByteArray.size_append]
      exact ⟨by show 2 ≤ 2 + _; omega, fun h => hr (beq_iff_eq.1 h.2)⟩
  · right
    rw [if_neg hs, List.cons_append, List.getD_cons_zero, ByteArray.size_append]
    exact ⟨by show 2 ≤ 2 + _; omega, fun h => hs (beq_iff_eq.1 h.1)⟩
theorem still_eq (f : Flg) : stillB f = (decide (chkF f = 0) && (decide (endN f 8 = 0) || f.chain)) := by
  unfold stillB
  by_cases hC : chkF f = 0
  · rw [decide_eq_true hC, Bool.true_and, Bool.true_and]
    unfold endsV
    rw [if_pos hC, first_way]
    obtain ⟨_, _, _, h1⟩ := chkF_zero hC
    have hb := behind_two f
    have hn : endN f 8 = f.last.toNat + f.next.toNat + f.chain.toNat + f.fin.toNat + f.forb.toNat + f.gone.toNat + (!(f.skip == 0)).toNat + (!(f.red == 0)).toNat := by
      show 0 + _ + _ + _ + _ + _ + _ + _ + _ = _
      rw [Nat.zero_add]; rfl
    rw [hn] at h1 ⊢
    generalize (skipL f ++ redL f).getD 0 ⟨#[]⟩ = x at hb
    generalize (f.skip == 0) = p at *
    generalize (f.red == 0) = q at *
    generalize f.last = l0 at *
    generalize f.next = l1 at *
    generalize f.chain = l2 at *
    generalize f.fin = l3 at *
    generalize f.forb = l4 at *
    generalize f.gone = l5 at *
    clear hn hC
    have hx : 2 ≤ x.size → decide (x = ⟨#[]⟩) = false ∧ decide (x = ⟨#[67]⟩) = false := fun h => ⟨decide_eq_false fun e => by rw [e] at h; exact absurd h (by decide), decide_eq_false fun e => by rw [e] at h; exact absurd h (by decide)⟩
    cases l0 <;> cases l1 <;> cases l2 <;> cases l3 <;> cases l4 <;> cases l5 <;> first
      | (exfalso; revert h1; cases p <;> cases q <;> decide)
      | decide
      | (rcases hb with ⟨rfl, rfl, rfl⟩ | ⟨h2, h3⟩
         · decide
         · obtain ⟨e1, e2⟩ := hx h2
           simp only [if_false, e1, e2, Bool.false_eq_true]
           cases p <;> cases q <;> first | rfl | exact absurd ⟨rfl, rfl⟩ h3)
      | (rcases hb with ⟨rfl, rfl, rfl⟩ | ⟨h2, h3⟩
         · decide
         · exfalso; revert h1 h3; cases p <;> cases q <;> decide)
      | (cases p <;> cases q <;> first | decide | (exfalso; revert h1; decide))
  · rw [decide_eq_false hC, Bool.false_and, Bool.false_and]

set_option maxRecDepth 100000 in
set_option maxHeartbeats 2000000 in
theorem rstill (f : Flg) (hb : (-9223372036854775808 ≤ f.skip ∧ f.skip ≤ 9223372036854775807)) (w : World) :
    Calls Tryd.prog 17 #[Value.agg #[Value.bool f.last, .bool f.next, .bool f.chain, .bool f.fin, .bool f.forb, .bool f.gone, .bool f.app, .bool f.disc, .int .i64 f.skip, .int .i64 f.red]] w fun e W' => e = .returned (.tuple #[.bool (stillB f), .int .i64 (chkF f)]) ∧ Below w.heap.size w W' := by
  have i0 := gr_alloc (Below.refl w.heap.size w) (.cells #[Value.bool f.last, .bool f.next, .bool f.chain, .bool f.fin, .bool f.forb, .bool f.gone, .bool f.app, .bool f.disc, .int .i64 f.skip, .int .i64 f.red] 24)
  have f0 := Blk.new w 24 #[Value.bool f.last, .bool f.next, .bool f.chain, .bool f.fin, .bool f.forb, .bool f.gone, .bool f.app, .bool f.disc, .int .i64 f.skip, .int .i64 f.red]
  have H0 := Lib.hid (And.intro f0 i0)
  clear f0 i0
  go_enter Tryd.func17, Tryd.ntmps17
  go_wp2_with (fail)
  refine (rcheck f hb _).mono ?_
  rintro e W1 ⟨rfl, h1⟩
  have H1 := Lib.hid (And.intro (H0.out.1.call h1) (gr_call H0.out.2 h1))
  clear h1 H0
  have hse := Lib.hid (still_eq f)
  obtain ⟨ce, hce⟩ : ∃ ce, ce = chkF f := ⟨_, rfl⟩
  have HC := Lib.hid hce
  rw [← hce]
  clear hce
  by_cases hc0 : ce = 0
  · have q : (ce == 0) = true := by simp; exact hc0
    have HZ := Lib.hid hc0
    clear hc0
    have k0 : W1.cell? ⟨w.heap.size, 0, none⟩ = some (.bool f.last) := H1.out.1.cell' (i := 0) rfl
    have k1 : W1.cell? ⟨w.heap.size, 1, none⟩ = some (.bool f.next) := H1.out.1.cell' (i := 1) rfl
    have k2 : W1.cell? ⟨w.heap.size, 2, none⟩ = some (.bool f.chain) := H1.out.1.cell' (i := 2) rfl
    have k3 : W1.cell? ⟨w.heap.size, 3, none⟩ = some (.bool f.fin) := H1.out.1.cell' (i := 3) rfl
    have k4 : W1.cell? ⟨w.heap.size, 4, none⟩ = some (.bool f.forb) := H1.out.1.cell' (i := 4) rfl
    have k5 : W1.cell? ⟨w.heap.size, 5, none⟩ = some (.bool f.gone) := H1.out.1.cell' (i := 5) rfl
    have k6 : W1.cell? ⟨w.heap.size, 6, none⟩ = some (.bool f.app) := H1.out.1.cell' (i := 6) rfl
    have k7 : W1.cell? ⟨w.heap.size, 7, none⟩ = some (.bool f.disc) := H1.out.1.cell' (i := 7) rfl
    have k8 : W1.cell? ⟨w.heap.size, 8, none⟩ = some (.int .i64 f.skip) := H1.out.1.cell' (i := 8) rfl
    have k9 : W1.cell? ⟨w.heap.size, 9, none⟩ = some (.int .i64 f.red) := H1.out.1.cell' (i := 9) rfl
    have klt := H1.out.1.lt
    go_wp2_with (fail)
    refine (rends f _).mono ?_
    rintro e W2 ⟨rfl, h2⟩
    have H2 := Lib.hid (And.intro (H1.out.1.call h2) (gr_call H1.out.2 h2))
    clear h2 k0 k1 k2 k3 k4 k5 k6 k7 k8 k9 klt
    have k2 : W2.cell? ⟨w.heap.size, 2, none⟩ = some (.bool f.chain) := H2.out.1.cell' (i := 2) rfl
    have klt := H2.out.1.lt
    obtain ⟨n, hn⟩ : ∃ n, n = endN f 8 := ⟨_, rfl⟩
    obtain ⟨b, hbb⟩ : ∃ b, b = f.chain := ⟨_, rfl⟩
    rw [← hn]
    rw [← hbb] at k2
    have HN := Lib.hid (And.intro hn hbb)
    clear hn hbb
    by_cases hn0 : n = 0
    · have q2 : ((n : Int) == 0) = true := beq_iff_eq.2 (by omega)
      have HQ := Lib.hid hn0
      clear hn0
      go_wp2_with (fail)
      go_ret2
      exact ⟨by rw [hse.out, ← HC.out, HZ.out, ← HN.out.1, ← HN.out.2, HQ.out] <;> rfl, H2.out.2⟩
    · have q2 : ((n : Int) == 0) = false := beq_eq_false_iff_ne.2 (by omega)
      have HQ := Lib.hid hn0
      clear hn0
      go_wp2_with (fail)
      go_ret2
      exact ⟨by rw [hse.out, ← HC.out, HZ.out, ← HN.out.1, ← HN.out.2, decide_eq_false HQ.out] <;> rfl, H2.out.2⟩
  · have q : (ce == 0) = false := by simp; exact hc0
    have HZ := Lib.hid hc0
    clear hc0
    go_wp2_with (fail)
    go_ret2
    exact ⟨by rw [hse.out, ← HC.out, decide_eq_false HZ.out] <;> rfl, H1.out.2⟩
end Go.Proofs.YtlipjagdlpkjpaaDoor
