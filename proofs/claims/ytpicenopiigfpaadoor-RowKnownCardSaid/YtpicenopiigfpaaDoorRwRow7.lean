/-
  RowKnown: the given statement: for every input the law returns true; condition: none.
-/
import Derived.Test.YtpicenopiigfpaaDoorCards
import Derived.Test.YtpicenopiigfpaaDoorTie
import Derived.Test.YtpicenopiigfpaaDoorLaw
import Derived.Test.YtpicenopiigfpaaDoorRxO
import Derived.Test.YtpicenopiigfpaaDoorRwW
import Derived.Test.YtpicenopiigfpaaDoorRxN
import Derived.Carry
import Derived.SevenTiedAt
namespace Go.Proofs.YtpicenopiigfpaaDoor
open Go.ChangeShapes Go.WideShapes Go.ChangeAt Go.RowKit
open Go.ChangeMaps (open_string)
set_option linter.unusedVariables false
set_option linter.unusedSimpArgs false


set_option maxRecDepth 100000 in
theorem known_lifted (os : Os) (started : os.Started) (H : Type) (enc : TypeId × Value → H) :
    ReturnsInHanded {} Tryd.checked os 9 .any (fun w args => (Rows.rowKnownSpec.pre enc Tryd.prog Tryd.f9 [] false w args ∧ LaidX w) ∧ sizedMet enc Tryd.prog Tryd.f9 (OpenSpec.ofChange Rows.rowKnownSpec) false w args)
      (Rows.rowKnownSpec.post enc Tryd.prog Tryd.f9 false true false false) := by
  refine wrap_shaped_laid (C := Tryd.checked) (X := fun w _ => LaidX w) own started (by kernel_rfl) Tryd.func9
    (ChangeSpec.witness_shaped (enc := enc) (C := Tryd.checked) (os := os) (X := fun w _ => LaidX w) false (laidWorld os) #[] 8 rfl (World.shaped_of_RefB (by kernel_rfl) (by kernel_rfl)) (by kernel_rfl) (by kernel_rfl) (by kernel_rfl) (laidWorld_met os _)) (fun _ _ _ hh h => h.of_heap hh.symm) ?_
  intro W base args ds gs before hval0 hW hsh hL
  have hval : ∀ (j : Nat) t v, Tryd.f9.params[j]? = some t → args[j]? = some v → Value.okWide Tryd.prog W .any base t v := hval0
  have hW' := hW
  obtain ⟨p, q, hA0, hV, rfl, hfz, hnd⟩ := hW
  have hA : DataW.TrodAll enc Tryd.prog W 0 (fun _ => true) true Tryd.f9.params.toList args.toList ds p := hA0
  have hM := errv_of_laid hL
  rw [Tryd.params9] at hA hval
  obtain ⟨rfl, rfl, rfl⟩ := trodAll_none hA
  obtain ⟨rfl, rfl⟩ := trodVars_none hV
  clear hA0 hval0
  refine (law_known W (numOk_of_laid hL)).mono fun e W' ⟨he, hg⟩ => ?_
  subst he
  exact ⟨_, rfl, law_post laidOut (by decide +kernel) (trodAll_cons_mk (shut_bool Tryd.underlying4 _) trodAll_mk0) rfl rfl hW' hg⟩

theorem known_holds : Rows.RowKnownSaid :=
  OpenClaim.holds_of_wide 9 Tryd.f9 rfl rfl rfl rfl rfl rfl rfl ⟨rfl, rfl, rfl, rfl, rfl⟩ rfl rfl rfl rfl rfl (by kernel_rfl) Tryd.func9 (by kernel_rfl)
    (of_decide_eq_true (by kernel_rfl)) (by unfold Func.isWrapper; first | (rw [if_pos (by decide +kernel)]; kernel_rfl) | (rw [if_neg (by decide +kernel)]; exact ⟨rfl, rfl⟩))
    (fun os started H enc _ => known_lifted os started H enc)

theorem known_card : Rows.RowKnownCardSaid :=
  Claim7.holds_tied_plain_at .later [] [.data, .data, .data, .data, .sentinel, .sentinel, .pinned] true (true, "902e68a3bd4d4687d0d5f74bc2083c416e862a4994af0cea735df14673e3918c") true
    known_holds (fun _ h => by cases h) (by kernel_rfl) (fun _ h => by cases h) rowKnown_row_tie rfl ⟨rfl, rfl⟩ (by kernel_rfl) rfl
    (fun f fn hf hfn => by
      obtain rfl : f = 9 := Option.some.inj ((show Tryd.prog.funcNamed "waypost/waypostlaw04.RowKnown" = some 9 by kernel_rfl).symm.trans hf) |>.symm
      obtain rfl : fn = Tryd.f9 := (Option.some.inj (Tryd.func9.symm.trans hfn)).symm
      exact ⟨by kernel_rfl, fun j t ht => by
        rw [Tryd.params9] at ht
        simp at ht⟩)
    (by kernel_rfl)
end Go.Proofs.YtpicenopiigfpaaDoor
