/-
  BytesetFolds: the given statement: for every input the law returns true; condition: none.
-/
import Derived.Test.YtcfdadgijnmemaaDoorCards
import Derived.Test.YtcfdadgijnmemaaDoorTie
import Derived.Test.YtcfdadgijnmemaaDoorLaw
import Derived.Test.YtcfdadgijnmemaaDoorSetLF
import Derived.Test.YtcfdadgijnmemaaDoorSetLaid
import Derived.SevenTiedAt
import Derived.Test.YtcfdadgijnmemaaDoorSetOpen
namespace Go.Proofs.YtcfdadgijnmemaaDoor
open Go.ChangeShapes Go.WideShapes Go.ChangeAt Go.RowKit
open Go.ChangeMaps (open_string)
set_option linter.unusedVariables false
set_option linter.unusedSimpArgs false


set_option maxRecDepth 100000 in
theorem folds_lifted (os : Os) (started : os.Started) (H : Type) (enc : TypeId × Value → H) :
    ReturnsInHanded {} Tryd.checked os 9 .any (fun w args => (Rows.bytesetFoldsSpec.pre enc Tryd.prog Tryd.f9 [] false w args ∧ laidMetH Tryd.prog [("math/bits.deBruijn64tab", Rows.laid_math_bits_deBruijn64tab)] w) ∧ sizedMet enc Tryd.prog Tryd.f9 (OpenSpec.ofChange Rows.bytesetFoldsSpec) false w args)
      (Rows.bytesetFoldsSpec.post enc Tryd.prog Tryd.f9 false true false false) := by
  refine returnsInHanded_of_change_and (C := Tryd.checked) (X := fun w _ => laidMetH Tryd.prog [("math/bits.deBruijn64tab", Rows.laid_math_bits_deBruijn64tab)] w) (fun _ _ _ hh h => h.of_heap hh) own started (by kernel_rfl) Tryd.func9
    (ChangeSpec.witness_at (enc := enc) (C := Tryd.checked) (os := os) (X := fun w _ => laidMetH Tryd.prog [("math/bits.deBruijn64tab", Rows.laid_math_bits_deBruijn64tab)] w) false (laidWorld os) #[.agg #[.int .u64 0, .int .u64 0, .int .u64 0, .int .u64 0], .agg #[.int .u64 0, .int .u64 0, .int .u64 0, .int .u64 0], .int .u8 0] 8 rfl (by kernel_rfl) (by kernel_rfl) (by kernel_rfl) (by kernel_rfl) (by kernel_rfl) (laidWorld_met os _)) ?_
  intro W base args ds gs before hval0 hW _ _ hL _
  have hval : ∀ (j : Nat) t v, Tryd.f9.params[j]? = some t → args[j]? = some v → Value.okWide Tryd.prog W .any base t v := hval0
  have hW' := hW
  obtain ⟨p, q, hA0, hV, rfl, hfz, hnd⟩ := hW
  have hA : DataW.TrodAll enc Tryd.prog W 0 (fun _ => true) true Tryd.f9.params.toList args.toList ds p := hA0
  have hT := tab_of_laid hL
  have hw : 0 < W.heap.size := tab_lt hT
  rw [Tryd.params9] at hA hval
  obtain ⟨v0, v1, v2, d0, d1, d2, p0, p1, p2, rfl, rfl, rfl, h0, h1, h2⟩ := trodAll_three hA
  obtain ⟨rfl, rfl⟩ := trodVars_none hV
  obtain ⟨P, rfl, rfl⟩ := open_setP (hval 0 28 v0 rfl rfl) h0
  obtain ⟨Q, rfl, rfl⟩ := open_setP (hval 1 28 v1 rfl rfl) h1
  obtain ⟨b, rfl, rfl, rfl, wn2⟩ := open_int Tryd.underlying5 (hval 2 5 v2 rfl rfl) h2
  have hbb := bounds_u8 wn2
  obtain ⟨b', rfl⟩ := Int.eq_ofNat_of_zero_le hbb.1
  clear hA0 hval0
  refine (law_folds P Q b' (by have := hbb.2; omega) W hT hw).mono fun e W' ⟨he, hg⟩ => ?_
  subst he
  exact ⟨_, rfl, law_post laidOut (by decide +kernel) (trodAll_cons_mk (shut_bool Tryd.underlying4 _) trodAll_mk0) rfl rfl hW' hg⟩

theorem folds_holds : Rows.BytesetFoldsSaid :=
  OpenClaim.holds_of_wide 9 Tryd.f9 rfl rfl rfl rfl rfl rfl rfl ⟨rfl, rfl, rfl, rfl, rfl⟩ rfl rfl rfl rfl rfl (by kernel_rfl) Tryd.func9 (by kernel_rfl)
    (of_decide_eq_true (by kernel_rfl)) (by unfold Func.isWrapper; first | (rw [if_pos (by decide +kernel)]; kernel_rfl) | (rw [if_neg (by decide +kernel)]; exact ⟨rfl, rfl⟩))
    (fun os started H enc _ => folds_lifted os started H enc)

theorem folds_card : Rows.BytesetFoldsCardSaid :=
  Claim7.holds_tied_plain_at .later [] [.data] true (true, "efd8c81b16641e30dfbb37d01147a7a489c10acf3f202de3a56076b3e4ab621a") false
    folds_holds (fun _ h => by cases h) (by kernel_rfl) (fun _ h => by cases h) bytesetFolds_row_tie rfl ⟨rfl, rfl⟩ (by kernel_rfl) rfl
    (fun f fn hf hfn => by
      obtain rfl : f = 9 := Option.some.inj ((show Tryd.prog.funcNamed "waypost/waypostlaw01.BytesetFolds" = some 9 by kernel_rfl).symm.trans hf) |>.symm
      obtain rfl : fn = Tryd.f9 := (Option.some.inj (Tryd.func9.symm.trans hfn)).symm
      exact ⟨by kernel_rfl, fun j t ht => by
        rw [Tryd.params9] at ht
        have hm : t ∈ [28, 28, 5] := by have := Array.mem_of_getElem? ht; simpa using this
        have hall : ∀ t ∈ [28, 28, 5], Tryd.prog.wantsStandIn t = false := by intro t ht; simp at ht; rcases ht with rfl | rfl | rfl <;> kernel_rfl
        exact hall t hm⟩)
    (by kernel_rfl)
end Go.Proofs.YtcfdadgijnmemaaDoor
