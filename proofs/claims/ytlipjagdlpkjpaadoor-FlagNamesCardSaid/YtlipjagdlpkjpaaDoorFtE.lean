/-
  The error behind all parts, walked; condition: the two tables lie as they are laid.
-/
import Derived.Test.YtlipjagdlpkjpaaDoorFtD
import Derived.Test.YtlipjagdlpkjpaaDoorFlgC
import Derived.Defers
namespace Go.Proofs.YtlipjagdlpkjpaaDoor
open Go.RowKit
set_option linter.unusedVariables false
set_option linter.unusedSimpArgs false

theorem whole_2 {s : Put} (h : (s.sk = true ∧ s.f.skip = 0) ∨ (s.rd = true ∧ s.f.red = 0)) : wholeP s = 2 := by unfold wholeP; rw [if_pos h]
theorem whole_c {s : Put} (h : ¬ ((s.sk = true ∧ s.f.skip = 0) ∨ (s.rd = true ∧ s.f.red = 0))) : wholeP s = chkF s.f := by unfold wholeP; rw [if_neg h]
theorem flg_eta (f : Flg) : f = ⟨f.last, f.next, f.chain, f.fin, f.forb, f.gone, f.app, f.disc, f.skip, f.red⟩ := rfl

set_option maxRecDepth 100000 in
set_option maxHeartbeats 4000000 in
theorem fcheckB (b : Nat) (s : Put) (hok : PutOk s) (w : World) (hT : Tabs w) (hb : Blk w b 51 (putC s)) :
    Calls Tryd.prog 33 #[.pointer (some ⟨b, 0, none⟩)] w fun e W' => e = .returned (.int .i64 (wholeP s)) ∧ Below w.heap.size w W' := by
  have c0 : w.cell? ⟨b, 0, none⟩ = some (.bool s.f.last) := hb.cell' (i := 0) rfl
  have c1 : w.cell? ⟨b, 1, none⟩ = some (.bool s.f.next) := hb.cell' (i := 1) rfl
  have c2 : w.cell? ⟨b, 2, none⟩ = some (.bool s.f.chain) := hb.cell' (i := 2) rfl
  have c3 : w.cell? ⟨b, 3, none⟩ = some (.bool s.f.fin) := hb.cell' (i := 3) rfl
  have c4 : w.cell? ⟨b, 4, none⟩ = some (.bool s.f.forb) := hb.cell' (i := 4) rfl
  have c5 : w.cell? ⟨b, 5, none⟩ = some (.bool s.f.gone) := hb.cell' (i := 5) rfl
  have c6 : w.cell? ⟨b, 6, none⟩ = some (.bool s.f.app) := hb.cell' (i := 6) rfl
  have c7 : w.cell? ⟨b, 7, none⟩ = some (.bool s.f.disc) := hb.cell' (i := 7) rfl
  have c8 : w.cell? ⟨b, 8, none⟩ = some (.int .i64 s.f.skip) := hb.cell' (i := 8) rfl
  have c9 : w.cell? ⟨b, 9, none⟩ = some (.int .i64 s.f.red) := hb.cell' (i := 9) rfl
  have c10 : w.cell? ⟨b, 10, none⟩ = some (.bool s.sk) := hb.cell' (i := 10) rfl
  have c11 : w.cell? ⟨b, 11, none⟩ = some (.bool s.rd) := hb.cell' (i := 11) rfl
  have hl := hb.lt
  have HT := Lib.hid (And.intro hT hok)
  clear hT hok hb
  obtain ⟨f, sk, rd⟩ := s
  simp only at c0 c1 c2 c3 c4 c5 c6 c7 c8 c9 c10 c11
  have H2 := Lib.hid (@whole_2 ⟨f, sk, rd⟩)
  have HC := Lib.hid (@whole_c ⟨f, sk, rd⟩)
  by_cases z8 : f.skip = 0
  · have q8 : (f.skip == 0) = true := by simp; exact z8
    have Z8 := Lib.hid z8
    clear z8
    by_cases z9 : f.red = 0
    · have q9 : (f.red == 0) = true := by simp; exact z9
      have Z9 := Lib.hid z9
      clear z9
      cases sk
      · cases rd
        · go_enter Tryd.func33, Tryd.ntmps33
          go_wp2_with (fail)
          refine (fcheck f HT.out.2.1 _ HT.out.1).mono ?_
          rintro e W1 ⟨rfl, h1⟩
          have H1 := Lib.hid h1
          clear h1
          go_wp2_with (fail)
          go_ret
          exact ⟨by rw [HC.out (by simp [Z8.out, Z9.out])] <;> rfl, H1.out⟩
        · go_enter Tryd.func33, Tryd.ntmps33
          go_wp2_with (fail)
          go_ret
          exact ⟨by rw [H2.out (by simp [Z8.out, Z9.out])] <;> rfl, Below.refl _ _⟩
      · go_enter Tryd.func33, Tryd.ntmps33
        go_wp2_with (fail)
        go_ret
        exact ⟨by rw [H2.out (by simp [Z8.out, Z9.out])] <;> rfl, Below.refl _ _⟩
    · have q9 : (f.red == 0) = false := by simp; exact z9
      have Z9 := Lib.hid z9
      clear z9
      cases sk
      · cases rd
        all_goals
          go_enter Tryd.func33, Tryd.ntmps33
          go_wp2_with (fail)
          refine (fcheck f HT.out.2.1 _ HT.out.1).mono ?_
          rintro e W1 ⟨rfl, h1⟩
          have H1 := Lib.hid h1
          clear h1
          go_wp2_with (fail)
          go_ret
          exact ⟨by rw [HC.out (by simp [Z8.out, Z9.out])] <;> rfl, H1.out⟩
      · go_enter Tryd.func33, Tryd.ntmps33
        go_wp2_with (fail)
        go_ret
        exact ⟨by rw [H2.out (by simp [Z8.out, Z9.out])] <;> rfl, Below.refl _ _⟩
  · have q8 : (f.skip == 0) = false := by simp; exact z8
    have Z8 := Lib.hid z8
    clear z8
    by_cases z9 : f.red = 0
    · have q9 : (f.red == 0) = true := by simp; exact z9
      have Z9 := Lib.hid z9
      clear z9
      cases rd
      · cases sk
        all_goals
          go_enter Tryd.func33, Tryd.ntmps33
          go_wp2_with (fail)
          refine (fcheck f HT.out.2.1 _ HT.out.1).mono ?_
          rintro e W1 ⟨rfl, h1⟩
          have H1 := Lib.hid h1
          clear h1
          go_wp2_with (fail)
          go_ret
          exact ⟨by rw [HC.out (by simp [Z8.out, Z9.out])] <;> rfl, H1.out⟩
      · cases sk
        all_goals
          go_enter Tryd.func33, Tryd.ntmps33
          go_wp2_with (fail)
          go_ret
          exact ⟨by rw [H2.out (by simp [Z8.out, Z9.out])] <;> rfl, Below.refl _ _⟩
    · have q9 : (f.red == 0) = false := by simp; exact z9
      have Z9 := Lib.hid z9
      clear z9
      cases rd <;> cases sk
      all_goals
        go_enter Tryd.func33, Tryd.ntmps33
        go_wp2_with (fail)
        refine (fcheck f HT.out.2.1 _ HT.out.1).mono ?_
        rintro e W1 ⟨rfl, h1⟩
        have H1 := Lib.hid h1
        clear h1
        go_wp2_with (fail)
        go_ret
        exact ⟨by rw [HC.out (by simp [Z8.out, Z9.out])] <;> rfl, H1.out⟩
end Go.Proofs.YtlipjagdlpkjpaaDoor
