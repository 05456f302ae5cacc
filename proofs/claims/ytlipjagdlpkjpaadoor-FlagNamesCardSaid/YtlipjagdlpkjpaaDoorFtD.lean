/-
  A part more for a builder, walked; condition: a variable of the library is an int.
-/
import Derived.Test.YtlipjagdlpkjpaaDoorFtC
import Derived.Deep.QuietTactic
namespace Go.Proofs.YtlipjagdlpkjpaaDoor
open Go.RowKit
set_option linter.unusedVariables false
set_option linter.unusedSimpArgs false

theorem putP_flag {s : Put} {p : ByteArray} (h : letK p < 8) : putP s p = if get8 s.f (letK p) = true then (s, 7) else (⟨set8 s.f (letK p), s.sk, s.rd⟩, 0) := by unfold putP; rw [if_pos h]
theorem putP_S {s : Put} {p : ByteArray} (h : ¬ letK p < 8) (h2 : isS p = true) : putP s p = skP s (numP (p.extract 2 p.size)) := by unfold putP; rw [if_neg h, if_pos h2]
theorem putP_r {s : Put} {p : ByteArray} (h : ¬ letK p < 8) (h2 : ¬ isS p = true) (h3 : p = rE) : putP s p = rdP s 302 := by unfold putP; rw [if_neg h, if_neg h2, if_pos h3]
theorem putP_R {s : Put} {p : ByteArray} (h : ¬ letK p < 8) (h2 : ¬ isS p = true) (h3 : ¬ p = rE) (h4 : isR p = true) : putP s p = rdP s (numP (p.extract 2 p.size)) := by unfold putP; rw [if_neg h, if_neg h2, if_neg h3, if_pos h4]
theorem putP_no {s : Put} {p : ByteArray} (h : ¬ letK p < 8) (h2 : ¬ isS p = true) (h3 : ¬ p = rE) (h4 : ¬ isR p = true) : putP s p = (s, 11) := by unfold putP; rw [if_neg h, if_neg h2, if_neg h3, if_neg h4]
theorem isS_rE : isS rE = false := by decide
theorem letK_two {p : ByteArray} (h : 2 ≤ p.size) : ¬ letK p < 8 := by unfold letK; rw [if_neg (by omega)]; omega
theorem letK_rE : ¬ letK rE < 8 := by decide
theorem numC_302 : numC ⟨#[51, 48, 50]⟩ = .tuple #[.int .i64 302, .int .i64 0] := by
  have h : numP ⟨#[51, 48, 50]⟩ = 302 := by decide +kernel
  rw [numC_is (by rw [h]; decide), h]
def PartPost (b : Nat) (s : Put) (p : ByteArray) (w : World) (e : Ending) (W' : World) : Prop :=
  e = .returned (.int .i64 (putP s p).2) ∧ Blk W' b 51 (putC (putP s p).1) ∧ BelowX w.heap.size b w W'

set_option maxRecDepth 100000 in
set_option maxHeartbeats 4000000 in
theorem fpart (b : Nat) (s : Put) (p : ByteArray) (hp : p.size ≤ 1000000) (w : World) (hm : MaxOk w) (hb : Blk w b 51 (putC s)) :
    Calls Tryd.prog 32 #[.pointer (some ⟨b, 0, none⟩), .string p] w (PartPost b s p w) := by
  have HB := Lib.hid hb
  have HM := Lib.hid hm
  have hl := hb.lt
  clear hm hb
  go_enter Tryd.func32, Tryd.ntmps32
  go_wp2_with (fail)
  refine (fflag b s p hp _ HM.out HB.out).mono ?_
  rintro e W1 ⟨rfl, h1⟩
  have H1 := Lib.hid (And.intro (HB.out.call h1) (And.intro (HM.out.below h1 (Nat.le_refl _)) h1))
  clear h1
  by_cases hk : letK p < 8
  · rw [flagAt_yes hk]
    have HP := Lib.hid (putP_flag (s := s) hk)
    obtain ⟨k, hke⟩ : ∃ k, k = letK p := ⟨_, rfl⟩
    rw [← hke] at hk HP ⊢
    clear hke
    have hc := H1.out.1.cell' (putC_get hk)
    have hf := H1.out.1.frozen k
    have hl1 := H1.out.1.lt
    obtain ⟨g, hg⟩ : ∃ g, g = get8 s.f k := ⟨_, rfl⟩
    rw [← hg] at hc HP
    clear hg
    cases g
    · go_wp2_with (fail)
      go_ret
      refine ⟨?_, ?_, ?_⟩
      · rw [HP.out]; rfl
      · rw [HP.out]
        have := H1.out.1.set_ k (.bool true)
        rw [putC_set hk] at this
        exact this
      · exact (BelowX.of_below H1.out.2.2 b).setCell (p := ⟨b, k, none⟩) (.inl rfl) _
    · go_wp2_with (fail)
      go_ret
      refine ⟨?_, ?_, ?_⟩
      · rw [HP.out]; rfl
      · rw [HP.out]; exact H1.out.1
      · exact BelowX.of_below H1.out.2.2 b
  · rw [flagAt_no hk]
    obtain ⟨m, hmm⟩ := H1.out.2.1
    have HMM := Lib.hid hmm
    have hl1 := H1.out.1.lt
    clear hmm
    go_wp2_with (fail)
    refine (Tryd.strings_Cut p ⟨#[61]⟩ m _ (by omega) HMM.out).mono ?_
    rintro e W2 ⟨rfl, n2, rfl⟩
    have hA : ∀ l D I, l = cutA p → D = cutB p → I = cutI p → True := fun _ _ _ _ _ _ => trivial
    clear hA
    obtain ⟨l, hle⟩ : ∃ l, l = cutA p := ⟨_, rfl⟩
    obtain ⟨d, hde⟩ : ∃ d, d = cutB p := ⟨_, rfl⟩
    obtain ⟨ii, hie⟩ : ∃ ii, ii = cutI p := ⟨_, rfl⟩
    rw [show (⟨(Lib.cut p.data.toList (⟨#[61]⟩ : ByteArray).data.toList).1.toArray⟩ : ByteArray) = l from hle.symm, show (⟨(Lib.cut p.data.toList (⟨#[61]⟩ : ByteArray).data.toList).2.1.toArray⟩ : ByteArray) = d from hde.symm, show (Lib.cut p.data.toList (⟨#[61]⟩ : ByteArray).data.toList).2.2 = ii from hie.symm]
    have c10 : W1.cell? ⟨b, 10, none⟩ = some (.bool s.sk) := H1.out.1.cell' (i := 10) rfl
    have c11 : W1.cell? ⟨b, 11, none⟩ = some (.bool s.rd) := H1.out.1.cell' (i := 11) rfl
    have c8 : W1.cell? ⟨b, 8, none⟩ = some (.int .i64 s.f.skip) := H1.out.1.cell' (i := 8) rfl
    have c9 : W1.cell? ⟨b, 9, none⟩ = some (.int .i64 s.f.red) := H1.out.1.cell' (i := 9) rfl
    have f10 := H1.out.1.frozen 10
    have f11 := H1.out.1.frozen 11
    have f8 := H1.out.1.frozen 8
    have f9 := H1.out.1.frozen 9
    have hlb := beq_lit l [83]
    have hlc := beq_lit l [82]
    have hpb := beq_lit p [82]
    have HX := Lib.hid (BelowX.of_below H1.out.2.2 b)
    by_cases hr : p = rE
    · have HP := Lib.hid (putP_r (s := s) hk (by rw [hr, isS_rE]; decide) hr)
      rw [decide_eq_true (show p = ⟨[82].toArray⟩ from hr)] at hpb
      clear hlb hlc hle hde hie hr hk
      go_wp2_with (fail)
      refine (fnum ⟨#[51, 48, 50]⟩ (by decide) _).mono ?_
      rintro e W3 ⟨rfl, rfl⟩
      rw [numC_302]
      cases hh : s.rd
      · have HQ : Hid ((rdP s 302).2 = 0 ∧ (rdP s 302).1 = ⟨⟨s.f.last, s.f.next, s.f.chain, s.f.fin, s.f.forb, s.f.gone, s.f.app, s.f.disc, s.f.skip, 302⟩, s.sk, true⟩) := Lib.hid (by unfold rdP; rw [if_neg (by decide), hh]; exact ⟨rfl, rfl⟩)
        rw [hh] at c11
        go_wp2_with (fail)
        go_quiet (fail)
        go_wp2_with (fail)
        go_quiet (fail)
        go_wp2_with (fail)
        go_ret
        refine ⟨by rw [HP.out, HQ.out.1] <;> rfl, ?_, ?_⟩
        · rw [HP.out, HQ.out.2]
          exact (((H1.out.1.drewN _).set_ 11 (.bool true)).set_ 9 (.int .i64 302))
        · exact ((HX.out.drewN _).setCell (p := ⟨b, 11, none⟩) (.inl rfl) _).setCell (p := ⟨b, 9, none⟩) (.inl rfl) _
      · have HQ : Hid ((rdP s 302) = (s, 7)) := Lib.hid (by unfold rdP; rw [if_neg (by decide), hh]; rfl)
        rw [hh] at c11
        go_wp2_with (fail)
        go_quiet (fail)
        go_wp2_with (fail)
        go_quiet (fail)
        go_wp2_with (fail)
        go_ret
        exact ⟨by rw [HP.out, HQ.out] <;> rfl, by rw [HP.out, HQ.out]; exact H1.out.1.drewN _, HX.out.drewN _⟩
    · rw [decide_eq_false (show ¬ p = ⟨[82].toArray⟩ from hr)] at hpb
      by_cases hS : isS p = true
      · have HP := Lib.hid (putP_S (s := s) hk hS)
        have hc := (isS_cut p).1 hS
        rw [← hle, ← hie] at hc
        have hd2 := isS_rest hS
        rw [← hde] at hd2
        rw [← hd2] at HP
        have hdz : d.size ≤ 1000000 := by rw [hd2, ext_len (Nat.le_refl _)]; omega
        rw [hc.1]
        rw [decide_eq_true (show l = ⟨[83].toArray⟩ from hc.2)] at hlb
        rw [hc.2, decide_eq_false (by decide)] at hlc
        rw [hc.2] at hlb
        rw [hc.2]
        clear hle hde hie hr hk hS hc hd2
        go_wp2_with (fail)
        refine (fnum d hdz _).mono ?_
        rintro e W3 ⟨rfl, rfl⟩
        by_cases hng : numP d < 0
        · have HQ : Hid ((skP s (numP d)) = (s, 3)) := Lib.hid (by unfold skP; rw [if_pos hng])
          rw [numC_no hng]
          clear hng
          go_wp2_with (fail)
          go_quiet (fail)
          go_wp2_with (fail)
          go_ret
          exact ⟨by rw [HP.out, HQ.out] <;> rfl, by rw [HP.out, HQ.out]; exact H1.out.1.drewN _, HX.out.drewN _⟩
        · rw [numC_is hng]
          obtain ⟨v, hv⟩ : ∃ v, v = numP d := ⟨_, rfl⟩
          have hvb := numP_bounds d
          rw [← hv] at hng hvb HP ⊢
          clear hv
          cases hh : s.sk
          · have HQ : Hid ((skP s v).2 = 0 ∧ (skP s v).1 = ⟨⟨s.f.last, s.f.next, s.f.chain, s.f.fin, s.f.forb, s.f.gone, s.f.app, s.f.disc, v, s.f.red⟩, true, s.rd⟩) := Lib.hid (by unfold skP; rw [if_neg (hng), hh]; exact ⟨rfl, rfl⟩)
            rw [hh] at c10
            go_wp2_with (fail)
            go_quiet (fail)
            go_wp2_with (fail)
            go_ret
            refine ⟨by rw [HP.out, HQ.out.1] <;> rfl, ?_, ?_⟩
            · rw [HP.out, HQ.out.2]
              exact (((H1.out.1.drewN _).set_ 10 (.bool true)).set_ 8 (.int .i64 v))
            · exact ((HX.out.drewN _).setCell (p := ⟨b, 10, none⟩) (.inl rfl) _).setCell (p := ⟨b, 8, none⟩) (.inl rfl) _
          · have HQ : Hid ((skP s v) = (s, 7)) := Lib.hid (by unfold skP; rw [if_neg (hng), hh]; rfl)
            rw [hh] at c10
            go_wp2_with (fail)
            go_quiet (fail)
            go_wp2_with (fail)
            go_ret
            exact ⟨by rw [HP.out, HQ.out] <;> rfl, by rw [HP.out, HQ.out]; exact H1.out.1.drewN _, HX.out.drewN _⟩
      · by_cases hR : isR p = true
        · have HP := Lib.hid (putP_R (s := s) hk hS hr hR)
          have hc := (isR_cut p).1 hR
          rw [← hle, ← hie] at hc
          have hd2 := isR_rest hR
          rw [← hde] at hd2
          rw [← hd2] at HP
          have hdz : d.size ≤ 1000000 := by rw [hd2, ext_len (Nat.le_refl _)]; omega
          rw [hc.1]
          rw [decide_eq_true (show l = ⟨[82].toArray⟩ from hc.2)] at hlc
          rw [hc.2, decide_eq_false (by decide)] at hlb
          rw [hc.2] at hlc
          rw [hc.2]
          clear hle hde hie hr hk hS hR hc hd2
          go_wp2_with (fail)
          refine (fnum d hdz _).mono ?_
          rintro e W3 ⟨rfl, rfl⟩
          by_cases hng : numP d < 0
          · have HQ : Hid ((rdP s (numP d)) = (s, 3)) := Lib.hid (by unfold rdP; rw [if_pos hng])
            rw [numC_no hng]
            clear hng
            go_wp2_with (fail)
            go_quiet (fail)
            go_wp2_with (fail)
            go_quiet (fail)
            go_wp2_with (fail)
            go_ret
            exact ⟨by rw [HP.out, HQ.out] <;> rfl, by rw [HP.out, HQ.out]; exact H1.out.1.drewN _, HX.out.drewN _⟩
          · rw [numC_is hng]
            obtain ⟨v, hv⟩ : ∃ v, v = numP d := ⟨_, rfl⟩
            have hvb := numP_bounds d
            rw [← hv] at hng hvb HP ⊢
            clear hv
            cases hh : s.rd
            · have HQ : Hid ((rdP s v).2 = 0 ∧ (rdP s v).1 = ⟨⟨s.f.last, s.f.next, s.f.chain, s.f.fin, s.f.forb, s.f.gone, s.f.app, s.f.disc, s.f.skip, v⟩, s.sk, true⟩) := Lib.hid (by unfold rdP; rw [if_neg (hng), hh]; exact ⟨rfl, rfl⟩)
              rw [hh] at c11
              go_wp2_with (fail)
              go_quiet (fail)
              go_wp2_with (fail)
              go_quiet (fail)
              go_wp2_with (fail)
              go_ret
              refine ⟨by rw [HP.out, HQ.out.1] <;> rfl, ?_, ?_⟩
              · rw [HP.out, HQ.out.2]
                exact (((H1.out.1.drewN _).set_ 11 (.bool true)).set_ 9 (.int .i64 v))
              · exact ((HX.out.drewN _).setCell (p := ⟨b, 11, none⟩) (.inl rfl) _).setCell (p := ⟨b, 9, none⟩) (.inl rfl) _
            · have HQ : Hid ((rdP s v) = (s, 7)) := Lib.hid (by unfold rdP; rw [if_neg (hng), hh]; rfl)
              rw [hh] at c11
              go_wp2_with (fail)
              go_quiet (fail)
              go_wp2_with (fail)
              go_quiet (fail)
              go_wp2_with (fail)
              go_ret
              exact ⟨by rw [HP.out, HQ.out] <;> rfl, by rw [HP.out, HQ.out]; exact H1.out.1.drewN _, HX.out.drewN _⟩
        · have HP := Lib.hid (putP_no (s := s) hk hS hr hR)
          have hn : ii = false ∨ ((l.toList == [83]) = false ∧ (l.toList == [82]) = false) := by
            cases hii : ii
            · left; rfl
            · right
              rw [hie] at hii
              rw [hlb, hlc]
              exact ⟨decide_eq_false fun e => hS ((isS_cut p).2 ⟨hii, by rw [← hle]; exact e⟩), decide_eq_false fun e => hR ((isR_cut p).2 ⟨hii, by rw [← hle]; exact e⟩)⟩
          clear hlb hlc hle hde hie hr hk hS hR
          rcases hn with rfl | ⟨hn1, hn2⟩
          · go_wp2_with (fail)
            go_ret
            refine ⟨by rw [HP.out] <;> rfl, by rw [HP.out]; exact H1.out.1.drewN _, HX.out.drewN _⟩
          · cases ii
            · go_wp2_with (fail)
              go_ret
              refine ⟨by rw [HP.out] <;> rfl, by rw [HP.out]; exact H1.out.1.drewN _, HX.out.drewN _⟩
            · go_wp2_with (fail)
              go_ret
              refine ⟨by rw [HP.out] <;> rfl, by rw [HP.out]; exact H1.out.1.drewN _, HX.out.drewN _⟩
end Go.Proofs.YtlipjagdlpkjpaaDoor
