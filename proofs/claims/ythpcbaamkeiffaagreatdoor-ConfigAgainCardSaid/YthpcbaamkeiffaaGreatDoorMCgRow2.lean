/-
  ConfigAgain: the given statement: for every input the law returns true; condition: none.
-/
import Derived.Carry
import Derived.SevenTiedAt
import Derived.Test.YthpcbaamkeiffaaGreatDoorCards
import Derived.Test.YthpcbaamkeiffaaGreatDoorTie
import Derived.Test.YthpcbaamkeiffaaGreatDoorMRwFn
import Derived.Test.YthpcbaamkeiffaaGreatDoorMCgM
import Derived.Test.YthpcbaamkeiffaaGreatDoorMCgW
namespace Go.Proofs.YthpcbaamkeiffaaGreatDoor
open Go.ChangeShapes Go.WideShapes Go.ChangeAt Go.RowKit
open Go.ChangeMaps (open_string)
set_option linter.unusedVariables false
set_option linter.unusedSimpArgs false


set_option maxRecDepth 100000 in
theorem again_lifted (os : Os) (started : os.Started) (H : Type) (enc : TypeId × Value → H) :
    ReturnsInHanded {} Tryz.checked os 8 .any (fun w args => (Rows.configAgainSpec.pre enc Tryz.prog Tryz.f8 [] false w args ∧ LaidX w) ∧ sizedMet enc Tryz.prog Tryz.f8 (OpenSpec.ofChange Rows.configAgainSpec) false w args)
      (Rows.configAgainSpec.post enc Tryz.prog Tryz.f8 false true false false) := by
  refine wrap_shaped_laid (C := Tryz.checked) (X := fun w _ => LaidX w) own started (by kernel_rfl) Tryz.func8
    (ChangeSpec.witness_shaped (enc := enc) (C := Tryz.checked) (os := os) (X := fun w _ => LaidX w) false (laidWorld os) #[.string ⟨#[]⟩] 8 rfl (World.shaped_of_RefB (by kernel_rfl) (by kernel_rfl)) (by kernel_rfl) (by kernel_rfl) (by kernel_rfl) (laidWorld_met os _)) (fun _ _ _ hh h => h.of_heap hh.symm) ?_
  intro W base args ds gs before hval0 hW hsh hL
  have hval : ∀ (j : Nat) t v, Tryz.f8.params[j]? = some t → args[j]? = some v → Value.okWide Tryz.prog W .any base t v := hval0
  have hW' := hW
  obtain ⟨p, q, hA0, hV, rfl, hfz, hnd⟩ := hW
  have hA : DataW.TrodAll enc Tryz.prog W 0 (fun _ => true) true Tryz.f8.params.toList args.toList ds p := hA0
  have hM := env_of_laid hL hsh
  rw [Tryz.params8] at hA hval
  obtain ⟨v0, d0, rfl, rfl, h0⟩ := trodAll_one hA
  obtain ⟨rfl, rfl⟩ := trodVars_none hV
  obtain ⟨s, rfl, rfl, rfl, ws⟩ := open_string Tryz.underlying9 (hval 0 9 v0 rfl rfl) h0
  clear hA0 hval0
  refine (law_again s ws W hM).mono fun e W' ⟨he, hg⟩ => ?_
  subst he
  exact ⟨_, rfl, law_post laidOut (by decide +kernel) (trodAll_cons_mk (shut_bool Tryz.underlying4 _) trodAll_mk0) rfl rfl hW' hg⟩

theorem again_holds : Rows.ConfigAgainSaid :=
  OpenClaim.holds_of_wide 8 Tryz.f8 rfl rfl rfl rfl rfl rfl rfl ⟨rfl, rfl, rfl, rfl, rfl⟩ rfl rfl rfl rfl rfl (by kernel_rfl) Tryz.func8 (by kernel_rfl)
    (of_decide_eq_true (by kernel_rfl)) (by unfold Func.isWrapper; first | (rw [if_pos (by decide +kernel)]; kernel_rfl) | (rw [if_neg (by decide +kernel)]; exact ⟨rfl, rfl⟩))
    (fun os started H enc _ => again_lifted os started H enc)

theorem again_card : Rows.ConfigAgainCardSaid :=
  Claim7.holds_tied_plain_at .later [] [.data, .data, .data, .data, .sentinel, .sentinel, .widerDeep, .pinned] true (true, "a65a1f83e9fce8ff9c44d2c946150a512b9e867f4a1f11afd67e52ceed057604") true
    again_holds (fun _ h => by cases h) (by kernel_rfl) (fun _ h => by cases h) configAgain_row_tie rfl ⟨rfl, rfl⟩ (by kernel_rfl) rfl
    (fun f fn hf hfn => by
      obtain rfl : f = 8 := Option.some.inj ((show Tryz.prog.funcNamed "waypost/waypostlaw29.ConfigAgain" = some 8 by kernel_rfl).symm.trans hf) |>.symm
      obtain rfl : fn = Tryz.f8 := (Option.some.inj (Tryz.func8.symm.trans hfn)).symm
      exact ⟨by kernel_rfl, fun j t ht => by
        rw [Tryz.params8] at ht
        have hm : t ∈ [9] := by have := Array.mem_of_getElem? ht; simpa using this
        have hall : ∀ t ∈ [9], Tryz.prog.wantsStandIn t = false := by intro t ht; simp at ht; subst ht; kernel_rfl
        exact hall t hm⟩)
    (by kernel_rfl)
end Go.Proofs.YthpcbaamkeiffaaGreatDoor
