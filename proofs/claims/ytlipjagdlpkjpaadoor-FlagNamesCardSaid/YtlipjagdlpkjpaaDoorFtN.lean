/-
  The reference's whole and Parse, walked; no condition.
-/
import Derived.Test.YtlipjagdlpkjpaaDoorFtM
import Derived.Test.YtlipjagdlpkjpaaDoorFtH
import Derived.Test.YtlipjagdlpkjpaaDoorFlgE
import Derived.StillTailTactics
namespace Go.Proofs.YtlipjagdlpkjpaaDoor
open Go.RowKit
set_option linter.unusedVariables false
set_option linter.unusedSimpArgs false

set_option maxRecDepth 100000 in
set_option maxHeartbeats 2000000 in
theorem rwhole (s : Put) (hok : PutOk s) (w : World) :
    Calls Tryd.prog 35 #[Value.agg #[Value.bool s.f.last, .bool s.f.next, .bool s.f.chain, .bool s.f.fin, .bool s.f.forb, .bool s.f.gone, .bool s.f.app, .bool s.f.disc, .int .i64 s.f.skip, .int .i64 s.f.red], .agg #[.bool s.sk, .bool s.rd]] w fun e W' => e = .returned (.int .i64 (wholeP s)) ∧ Below w.heap.size w W' := by
  have HT := Lib.hid (And.intro hok (gr_alloc (gr_alloc (Below.refl w.heap.size w) (.cells #[Value.bool s.f.last, .bool s.f.next, .bool s.f.chain, .bool s.f.fin, .bool s.f.forb, .bool s.f.gone, .bool s.f.app, .bool s.f.disc, .int .i64 s.f.skip, .int .i64 s.f.red] 24)) (.cells #[.bool s.sk, .bool s.rd] 56)))
  clear hok
  obtain ⟨f, sk, rd⟩ := s
  simp only at HT ⊢
  have H2 := Lib.hid (@whole_2 ⟨f, sk, rd⟩)
  have HC := Lib.hid (@whole_c ⟨f, sk, rd⟩)
  have hs : Hid (f.skip = 0) ∧ (f.skip == 0) = true ∨ Hid (¬ f.skip = 0) ∧ (f.skip == 0) = false := by
    by_cases h : f.skip = 0
    · exact .inl ⟨Lib.hid h, by simp; exact h⟩
    · exact .inr ⟨Lib.hid h, by simp; exact h⟩
  have hr : Hid (f.red = 0) ∧ (f.red == 0) = true ∨ Hid (¬ f.red = 0) ∧ (f.red == 0) = false := by
    by_cases h : f.red = 0
    · exact .inl ⟨Lib.hid h, by simp; exact h⟩
    · exact .inr ⟨Lib.hid h, by simp; exact h⟩
  obtain ⟨p, hp⟩ : ∃ p, p = (f.skip == 0) := ⟨_, rfl⟩
  obtain ⟨q, hq⟩ : ∃ q, q = (f.red == 0) := ⟨_, rfl⟩
  have HP := Lib.hid (And.intro hs hr)
  clear hs hr
  cases sk <;> cases rd <;> cases p <;> cases q
  all_goals
    replace hp := hp.symm
    replace hq := hq.symm
    go_enter Tryd.func35, Tryd.ntmps35
    go_wp2_with (fail)
    first
      | (go_ret
         exact ⟨by rw [H2.out (by simp only [beq_iff_eq] at hp hq; simp [hp, hq])] <;> rfl, HT.out.2⟩)
      | (refine (rcheck f HT.out.1.1 _).mono ?_
         rintro e W1 ⟨rfl, h1⟩
         have H1 := Lib.hid (gr_call HT.out.2 h1)
         clear h1
         go_wp2_with (fail)
         go_ret
         exact ⟨by rw [HC.out (by simp only [beq_iff_eq, beq_eq_false_iff_ne] at hp hq; simp [hp, hq])] <;> rfl, H1.out⟩)
end Go.Proofs.YtlipjagdlpkjpaaDoor
