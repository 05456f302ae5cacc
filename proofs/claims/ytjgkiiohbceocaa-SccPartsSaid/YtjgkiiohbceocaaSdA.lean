/-
  The reference's linked, walked; conditions: nodes below 64.
-/
import Derived.Test.YtjgkiiohbceocaaScZ
namespace Go.Proofs.Ytjgkiiohbceocaa
open Go.RowKit
set_option linter.unusedVariables false
set_option linter.unusedSimpArgs false

def anyY (E : Nat → Nat → Bool) (x : Nat) (b : List Nat) (j : Nat) : Bool := (b.take j).any fun y => E x y
theorem anyY_zero (E : Nat → Nat → Bool) (x : Nat) (b : List Nat) : anyY E x b 0 = false := by simp [anyY]
theorem anyY_step {E : Nat → Nat → Bool} {b : List Nat} {x j y : Nat} (hy : b[j]? = some y) (h0 : anyY E x b j = false) : anyY E x b (j + 1) = E x y := any_step hy h0
theorem anyY_all (E : Nat → Nat → Bool) (x : Nat) (b : List Nat) : anyY E x b b.length = b.any fun y => E x y := by unfold anyY; rw [List.take_length]
set_option maxRecDepth 100000 in
set_option maxHeartbeats 4000000 in
theorem linked_ref (E : Nat → Nat → Bool) (a b : List Nat) (ha : a ≠ []) (hb : b ≠ []) (hal : a.length ≤ 64) (hbl : b.length ≤ 64) (hax : ∀ x ∈ a, x < 64) (hbx : ∀ x ∈ b, x < 64) (va vb : Value) (w : World) (hva : NatsAt w va a) (hvb : NatsAt w vb b) :
    Calls Try.prog 56 #[.agg (tabC E), va, vb] w fun e w' => e = .returned (.bool (edgL E a b)) ∧ Below w.heap.size w w' := by
  have bb := gr_alloc (Below.refl w.heap.size w) (.cells (tabC E) 73)
  have kt := Blk.new w 73 (tabC E)
  obtain ⟨Aa, c1, rfl, hxa⟩ := (hva.below bb).ex
  obtain ⟨Ab, c2, rfl, hxb⟩ := (hvb.below bb).ex
  obtain ⟨ga, oa, rfl, gal, hca⟩ := hxa ha
  obtain ⟨gb, ob, rfl, gbl, hcb⟩ := hxb hb
  obtain ⟨na, hna⟩ : ∃ m, m = a.length := ⟨_, rfl⟩
  obtain ⟨nb, hnb⟩ : ∃ m, m = b.length := ⟨_, rfl⟩
  rw [← hna, ← hnb]
  rw [← hna] at hal
  rw [← hnb] at hbl
  obtain ⟨ct, hct⟩ : ∃ ct, ct = tabC E := ⟨_, rfl⟩
  rw [← hct] at bb kt hca hcb gal gbl ⊢
  have hcz : ct.size = 4096 := by rw [hct, tabC_size]
  have H := Lib.hid (And.intro bb (And.intro kt (And.intro hca (And.intro hcb (And.intro hna (And.intro hnb (And.intro hax (And.intro hbx hct))))))))
  have tl := kt.lt
  clear bb kt hca hcb hna hnb hax hbx hct hxa hxb hva hvb ha hb
  go_enter Try.func56, Try.ntmps56
  go_wp2_with (fail)
  obtain ⟨X0, hX0⟩ : ∃ X0, w.alloc (.cells ct 73) = X0 := ⟨_, rfl⟩
  rw [hX0] at H tl gal gbl ⊢
  clear hX0
  go_loopg [7] na (fun q iv wr => ∃ p : Nat, q = na - p ∧ p ≤ na ∧ iv = .int .i64 (p : Int) ∧ edgTo E b a p = false ∧ Below X0.heap.size X0 wr)
  case atStart => exact ⟨0, rfl, Nat.zero_le _, rfl, edgTo_zero _ _ _, Below.refl _ _⟩
  case round =>
    obtain ⟨p, hq, hp, rfl, he, hbel⟩ := hrel
    by_cases hpn : p < na
    · obtain ⟨x, hx⟩ : ∃ x, a[p]? = some x := ⟨_, List.getElem?_eq_getElem (by rw [← H.out.2.2.2.2.1]; exact hpn)⟩
      have hx64 : x < 64 := H.out.2.2.2.2.2.2.1 x (List.mem_of_getElem? hx)
      have hp' : (p : Int) < (na : Int) := by omega
      have hx7 : (x : Int) < 64 := by omega
      have B := Lib.hid (And.intro he (And.intro hx (And.intro hbel hq)))
      clear he hx hbel hq
      go_wp2_with (fail)
      go_loopg [8] nb (fun q jv wr => ∃ j : Nat, q = nb - j ∧ j ≤ nb ∧ jv = .int .i64 (j : Int) ∧ anyY E x b j = false ∧ Below X0.heap.size X0 wr)
      case atStart => exact ⟨0, rfl, Nat.zero_le _, rfl, anyY_zero _ _ _, B.out.2.2.1⟩
      case round =>
        obtain ⟨j, hq, hj, rfl, hf, hbel⟩ := hrel
        by_cases hjn : j < nb
        · obtain ⟨y, hy⟩ : ∃ y, b[j]? = some y := ⟨_, List.getElem?_eq_getElem (by rw [← H.out.2.2.2.2.2.1]; exact hjn)⟩
          have hy64 : y < 64 := H.out.2.2.2.2.2.2.2.1 y (List.mem_of_getElem? hy)
          have hj' : (j : Int) < (nb : Int) := by omega
          have hy7 : (y : Int) < 64 := by omega
          have cx := (hbel.cell (p := ⟨ga, oa + p, none⟩) gal).trans (H.out.2.2.1 p x B.out.2.1)
          have cy := (hbel.cell (p := ⟨gb, ob + j, none⟩) gbl).trans (H.out.2.2.2.1 j y hy)
          have kt := H.out.2.1.call hbel
          rw [H.out.2.2.2.2.2.2.2.2] at kt
          have ctt := kt.cell' (tabC_at E hx64 hy64)
          have hst := anyY_step hy hf
          have ga' := Nat.lt_of_lt_of_le gal hbel.size
          have gb' := Nat.lt_of_lt_of_le gbl hbel.size
          have tl' := kt.lt
          have D := Lib.hid (And.intro hst (And.intro hbel (And.intro hq hy)))
          clear hst hbel hq hy hf kt
          cases hE : E x y with
          | true =>
            rw [hE] at ctt
            have F := Lib.hid hE
            clear hE
            go_wp2_with (fail)
            go_region
            all_goals
              go_wp2_with (fail)
              go_ret
              refine ⟨ret_bool (edg_found B.out.2.1 (any_found D.out.2.2.2 F.out)).symm, ?_⟩
              have h9 := gr_call H.out.1 D.out.2.1
              exact ⟨h9.os, h9.tape, h9.output, h9.size, h9.block⟩
          | false =>
            rw [hE] at ctt
            have F := Lib.hid hE
            clear hE
            go_wp2_with (fail)
            go_region
            all_goals
              go_wp2_with (fail)
              go_roundg (nb - (j + 1))
              case measure => have := D.out.2.2.1; omega
              case rel =>
                have h9 := D.out.2.1
                exact ⟨j + 1, rfl, hjn, rfl, D.out.1.trans F.out, ⟨h9.os, h9.tape, h9.output, h9.size, h9.block⟩⟩
        · have ej : j = nb := by omega
          subst j
          have hst := edgTo_step B.out.2.1 B.out.1
          rw [← anyY_all, ← H.out.2.2.2.2.2.1] at hst
          have D := Lib.hid (And.intro hst (And.intro hf hbel))
          clear hst hf hbel hq hjn
          go_wp2_with (fail)
          go_roundg (na - (p + 1))
          case measure => have := B.out.2.2.2; omega
          case rel => exact ⟨p + 1, rfl, hpn, rfl, D.out.1.trans D.out.2.1, D.out.2.2⟩
    · have ep : p = na := by omega
      subst p
      rw [H.out.2.2.2.2.1, edgTo_all] at he
      have B := Lib.hid (And.intro he hbel)
      clear he hbel hq hpn
      go_wp2_with (fail)
      go_ret
      exact ⟨ret_bool B.out.1.symm, gr_call H.out.1 B.out.2⟩
end Go.Proofs.Ytjgkiiohbceocaa
