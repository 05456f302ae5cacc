/-
  FlagNames: the given statement: for every input the law returns true; condition: none.
-/
import Derived.Test.YtlipjagdlpkjpaaDoorCards
import Derived.Test.YtlipjagdlpkjpaaDoorTie
import Derived.Test.YtlipjagdlpkjpaaDoorLaw
import Derived.Test.YtlipjagdlpkjpaaDoorFtNm
import Derived.Test.YtlipjagdlpkjpaaDoorFtX
import Derived.SevenTiedAt
namespace Go.Proofs.YtlipjagdlpkjpaaDoor
open Go.ChangeShapes Go.WideShapes Go.ChangeAt Go.RowKit
open Go.ChangeMaps (open_string)
set_option linter.unusedVariables false
set_option linter.unusedSimpArgs false


set_option maxRecDepth 100000 in
theorem names_lifted (os : Os) (started : os.Started) (H : Type) (enc : TypeId × Value → H) :
    ReturnsInHanded {} Tryd.checked os 8 .any (fun w args => (Rows.flagNamesSpec.pre enc Tryd.prog Tryd.f8 [] false w args ∧ LaidX w) ∧ sizedMet enc Tryd.prog Tryd.f8 (OpenSpec.ofChange Rows.flagNamesSpec) false w args)
      (Rows.flagNamesSpec.post enc Tryd.prog Tryd.f8 false true false false) := by
  refine wrap_shaped_laid (C := Tryd.checked) (X := fun w _ => LaidX w) own started (by kernel_rfl) Tryd.func8
    (ChangeSpec.witness_at (enc := enc) (C := Tryd.checked) (os := os) (X := fun w _ => LaidX w) false (laidWorld os) #[.int .i64 0, .int .i64 0] 8 rfl (by kernel_rfl) (by kernel_rfl) (by kernel_rfl) (by kernel_rfl) (by kernel_rfl) (laidWorld_met os _)) (fun _ _ _ hh h => h.of_heap hh.symm) ?_
  intro W base args ds gs before hval0 hW hsh hL
  have hval : ∀ (j : Nat) t v, Tryd.f8.params[j]? = some t → args[j]? = some v → Value.okWide Tryd.prog W .any base t v := hval0
  have hW' := hW
  obtain ⟨p, q, hA0, hV, rfl, hfz, hnd⟩ := hW
  have hA : DataW.TrodAll enc Tryd.prog W 0 (fun _ => true) true Tryd.f8.params.toList args.toList ds p := hA0
  have hM := maxOk_of_shape hsh
  have hT := tabs_of_laid hL
  rw [Tryd.params8] at hA hval
  obtain ⟨v0, v1, d0, d1, p0, p1, rfl, rfl, rfl, h0, h1⟩ := trodAll_two hA
  obtain ⟨rfl, rfl⟩ := trodVars_none hV
  obtain ⟨n, rfl, rfl, rfl, wn⟩ := open_int Tryd.underlying3 (hval 0 3 v0 rfl rfl) h0
  obtain ⟨t, rfl, rfl, rfl, wt⟩ := open_int Tryd.underlying3 (hval 1 3 v1 rfl rfl) h1
  clear hA0 hval0
  refine (law_names n t (bounds_i64 wn) (bounds_i64 wt) W hT hM).mono fun e W' ⟨he, hg⟩ => ?_
  subst he
  exact ⟨_, rfl, law_post laidOut (by decide +kernel) (trodAll_cons_mk (shut_bool Tryd.underlying4 _) trodAll_mk0) rfl rfl hW' hg⟩

theorem names_holds : Rows.FlagNamesSaid :=
  OpenClaim.holds_of_wide 8 Tryd.f8 rfl rfl rfl rfl rfl rfl rfl ⟨rfl, rfl, rfl, rfl, rfl⟩ rfl rfl rfl rfl rfl (by kernel_rfl) Tryd.func8 (by kernel_rfl)
    (of_decide_eq_true (by kernel_rfl)) (by unfold Func.isWrapper; first | (rw [if_pos (by decide +kernel)]; kernel_rfl) | (rw [if_neg (by decide +kernel)]; exact ⟨rfl, rfl⟩))
    (fun os started H enc _ => names_lifted os started H enc)

theorem names_card : Rows.FlagNamesCardSaid :=
  Claim7.holds_tied_plain_at .later [] [.data, .data, .data, .data, .widerDeep, .pinned] true (true, "ff61117f1f0972c3e3a164d9e2979c8c960c366ff53462515477f5e17f764e86") false
    names_holds (fun _ h => by cases h) (by kernel_rfl) (fun _ h => by cases h) flagNames_row_tie rfl ⟨rfl, rfl⟩ (by kernel_rfl) rfl
    (fun f fn hf hfn => by
      obtain rfl : f = 8 := Option.some.inj ((show Tryd.prog.funcNamed "waypost/waypostlaw26.FlagNames" = some 8 by kernel_rfl).symm.trans hf) |>.symm
      obtain rfl : fn = Tryd.f8 := (Option.some.inj (Tryd.func8.symm.trans hfn)).symm
      exact ⟨by kernel_rfl, fun j t ht => by
        rw [Tryd.params8] at ht
        have hm : t ∈ [3, 3] := by have := Array.mem_of_getElem? ht; simpa using this
        have hall : ∀ t ∈ [3, 3], Tryd.prog.wantsStandIn t = false := by intro t ht; simp at ht; rcases ht with rfl | rfl <;> kernel_rfl
        exact hall t hm⟩)
    (by kernel_rfl)
end Go.Proofs.YtlipjagdlpkjpaaDoor
