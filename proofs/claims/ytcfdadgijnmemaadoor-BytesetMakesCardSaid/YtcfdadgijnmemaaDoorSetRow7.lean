/-
  BytesetMakes: the given statement: for every input the law returns true; condition: none.
-/
import Derived.Test.YtcfdadgijnmemaaDoorCards
import Derived.Test.YtcfdadgijnmemaaDoorTie
import Derived.Test.YtcfdadgijnmemaaDoorLaw
import Derived.Test.YtcfdadgijnmemaaDoorSetLM
import Derived.Test.YtcfdadgijnmemaaDoorSetLaid
import Derived.SevenTiedAt
import Derived.Test.YtcfdadgijnmemaaDoorSetOpM
namespace Go.Proofs.YtcfdadgijnmemaaDoor
open Go.ChangeShapes Go.WideShapes Go.ChangeAt Go.RowKit
open Go.ChangeMaps (open_string)
set_option linter.unusedVariables false
set_option linter.unusedSimpArgs false


set_option maxRecDepth 100000 in
theorem makes_lifted (os : Os) (started : os.Started) (H : Type) (enc : TypeId × Value → H) :
    ReturnsInHanded {} Tryd.checked os 3 .any (fun w args => (Rows.bytesetMakesSpec.pre enc Tryd.prog Tryd.f3 [] false w args ∧ laidMetH Tryd.prog [("math/bits.deBruijn64tab", Rows.laid_math_bits_deBruijn64tab)] w) ∧ sizedMet enc Tryd.prog Tryd.f3 (OpenSpec.ofChange Rows.bytesetMakesSpec) false w args)
      (Rows.bytesetMakesSpec.post enc Tryd.prog Tryd.f3 false true false false) := by
  refine returnsInHanded_of_change_and (C := Tryd.checked) (X := fun w _ => laidMetH Tryd.prog [("math/bits.deBruijn64tab", Rows.laid_math_bits_deBruijn64tab)] w) (fun _ _ _ hh h => h.of_heap hh) own started (by kernel_rfl) Tryd.func3
    (ChangeSpec.witness_at (enc := enc) (C := Tryd.checked) (os := os) (X := fun w _ => laidMetH Tryd.prog [("math/bits.deBruijn64tab", Rows.laid_math_bits_deBruijn64tab)] w) false (laidWorld os) #[.slice none 0 0, .slice none 0 0, .slice none 0 0] 8 rfl (by kernel_rfl) (by kernel_rfl) (by kernel_rfl) (by kernel_rfl) (by kernel_rfl) (laidWorld_met os _)) ?_
  intro W base args ds gs before hval0 hW _ _ hL _
  have hval : ∀ (j : Nat) t v, Tryd.f3.params[j]? = some t → args[j]? = some v → Value.okWide Tryd.prog W .any base t v := hval0
  have hW' := hW
  obtain ⟨p, q, hA0, hV, rfl, hfz, hnd⟩ := hW
  have hA : DataW.TrodAll enc Tryd.prog W 0 (fun _ => true) true Tryd.f3.params.toList args.toList ds p := hA0
  have hT := tab_of_laid hL
  have hw : 0 < W.heap.size := tab_lt hT
  rw [Tryd.params3] at hA hval
  obtain ⟨v0, v1, v2, d0, d1, d2, p0, p1, p2, rfl, rfl, rfl, h0, h1, h2⟩ := trodAll_three hA
  obtain ⟨rfl, rfl⟩ := trodVars_none hV
  obtain ⟨A1, n1, c1, Z, hZ, rfl, k1, e1⟩ := open_bytesC (hval 0 22 v0 rfl rfl) h0
  obtain ⟨A2, n2, c2, L, U, hL, hU, rfl, k2, e2⟩ := open_rngsC (hval 1 23 v1 rfl rfl) h1
  obtain ⟨A3, n3, c3, S, rfl, k3, e3⟩ := open_setsC (hval 2 24 v2 rfl rfl) h2
  clear hA0 hval0
  refine (law_makes A1 A2 A3 n1 n2 n3 c1 c2 c3 Z L U S hZ hL hU W k1 k2 k3 e1 e2 e3 hT hw).mono fun e W' ⟨he, hg⟩ => ?_
  subst he
  exact ⟨_, rfl, law_post laidOut (by decide +kernel) (trodAll_cons_mk (shut_bool Tryd.underlying4 _) trodAll_mk0) rfl rfl hW' hg⟩

theorem makes_holds : Rows.BytesetMakesSaid :=
  OpenClaim.holds_of_wide 3 Tryd.f3 rfl rfl rfl rfl rfl rfl rfl ⟨rfl, rfl, rfl, rfl, rfl⟩ rfl rfl rfl rfl rfl (by kernel_rfl) Tryd.func3 (by kernel_rfl)
    (of_decide_eq_true (by kernel_rfl)) (by unfold Func.isWrapper; first | (rw [if_pos (by decide +kernel)]; kernel_rfl) | (rw [if_neg (by decide +kernel)]; exact ⟨rfl, rfl⟩))
    (fun os started H enc _ => makes_lifted os started H enc)

theorem makes_card : Rows.BytesetMakesCardSaid :=
  Claim7.holds_tied_plain_at .later [] [.data] true (true, "efd8c81b16641e30dfbb37d01147a7a489c10acf3f202de3a56076b3e4ab621a") false
    makes_holds (fun _ h => by cases h) (by kernel_rfl) (fun _ h => by cases h) bytesetMakes_row_tie rfl ⟨rfl, rfl⟩ (by kernel_rfl) rfl
    (fun f fn hf hfn => by
      obtain rfl : f = 3 := Option.some.inj ((show Tryd.prog.funcNamed "waypost/waypostlaw01.BytesetMakes" = some 3 by kernel_rfl).symm.trans hf) |>.symm
      obtain rfl : fn = Tryd.f3 := (Option.some.inj (Tryd.func3.symm.trans hfn)).symm
      exact ⟨by kernel_rfl, fun j t ht => by
        rw [Tryd.params3] at ht
        have hm : t ∈ [22, 23, 24] := by have := Array.mem_of_getElem? ht; simpa using this
        have hall : ∀ t ∈ [22, 23, 24], Tryd.prog.wantsStandIn t = false := by intro t ht; simp at ht; rcases ht with rfl | rfl | rfl <;> kernel_rfl
        exact hall t hm⟩)
    (by kernel_rfl)
end Go.Proofs.YtcfdadgijnmemaaDoor
