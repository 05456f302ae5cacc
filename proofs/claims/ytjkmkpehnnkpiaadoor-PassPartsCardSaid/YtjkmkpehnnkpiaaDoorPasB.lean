/-
  What is next after a rule was tried, by the reference: the plain function; no condition.
-/
import Derived.Test.YtjkmkpehnnkpiaaDoorPasA
namespace Go.Proofs.YtjkmkpehnnkpiaaDoor
open Go.RowKit Go.Joins
set_option linter.unusedVariables false
set_option linter.unusedSimpArgs false

/-- e is the end of the chain from k on. -/
def ChainEnd (F : Nat → Flg) (n k e : Nat) : Prop := k ≤ e ∧ e ≤ n ∧ (∀ j, k ≤ j → j < e → (F j).chain = true) ∧ (e < n → (F e).chain = false)
theorem chainTo_end (F : Nat → Flg) (n : Nat) : ∀ m k, k ≤ n → n ≤ k + m → ChainEnd F n k (chainTo F n m k) := by
  intro m
  induction m with
  | zero =>
    intro k hk hm
    obtain rfl : k = n := by omega
    exact ⟨Nat.le_refl _, Nat.le_refl _, fun j h1 h2 => absurd (Nat.lt_of_le_of_lt h1 h2) (Nat.lt_irrefl _), fun h => absurd h (Nat.lt_irrefl _)⟩
  | succ m ih =>
    intro k hk hm
    unfold chainTo
    by_cases h : k < n ∧ (F k).chain = true
    · rw [if_pos h]
      obtain ⟨h1, h2, h3, h4⟩ := ih (k + 1) (by omega) (by omega)
      refine ⟨by omega, h2, fun j hj hje => ?_, h4⟩
      by_cases e : j = k
      · subst e; exact h.2
      · exact h3 j (by omega) hje
    · rw [if_neg h]
      refine ⟨Nat.le_refl _, hk, fun j h1 h2 => by omega, fun hlt => ?_⟩
      cases hc : (F k).chain with
      | false => rfl
      | true => exact absurd ⟨hlt, hc⟩ h
theorem chainEnd_unique {F : Nat → Flg} {n k e e' : Nat} (h : ChainEnd F n k e) (h' : ChainEnd F n k e') : e = e' := by
  obtain ⟨a1, a2, a3, a4⟩ := h
  obtain ⟨b1, b2, b3, b4⟩ := h'
  rcases Nat.lt_trichotomy e e' with hlt | heq | hlt
  · have := b3 e a1 hlt
    rw [a4 (by omega)] at this
    cases this
  · exact heq
  · have := a3 e' b1 hlt
    rw [b4 (by omega)] at this
    cases this
theorem chainTo_is {F : Nat → Flg} {n k e : Nat} (hk : k ≤ n) (h : ChainEnd F n k e) : chainTo F n n k = e := chainEnd_unique (chainTo_end F n n k hk (by omega)) h

def AfRel (F : Nat → Flg) (n k : Nat) (w : World) (i : Value) (wr : World) : Prop :=
  ∃ m : Nat, k < m ∧ m ≤ n ∧ i = .int .i64 (m : Int) ∧ (∀ j, k ≤ j → j < m → (F j).chain = true) ∧ Below w.heap.size w wr
/-- At most one of the ways. -/
theorem one_way {f : Flg} (h : chkF f = 0) (hl : f.last = true) : f.next = false ∧ f.fin = false ∧ f.forb = false ∧ f.gone = false ∧ f.red = 0 := by
  obtain ⟨_, _, _, h4⟩ := chkF_zero h
  have e : endN f 8 = (f.last).toNat + (f.next).toNat + (f.chain).toNat + (f.fin).toNat + (f.forb).toNat + (f.gone).toNat + (!(f.skip == 0)).toNat + (!(f.red == 0)).toNat := by
    show 0 + _ + _ + _ + _ + _ + _ + _ + _ = _
    simp only [Nat.zero_add]
    rfl
  rw [e, hl] at h4
  have t : ∀ b : Bool, b.toNat = 0 → b = false := by decide
  have u : (true : Bool).toNat = 1 := rfl
  rw [u] at h4
  refine ⟨t _ (by omega), t _ (by omega), t _ (by omega), t _ (by omega), ?_⟩
  have := t (!(f.red == 0)) (by omega)
  simpa using this

set_option maxRecDepth 100000 in
set_option maxHeartbeats 8000000 in
theorem rafter (F : Nat → Flg) (A : Option Addr) (n c k : Nat) (hn : n ≤ 1000000) (hk : k < n) (hc : chkF (F k) = 0) (h : Bool) (w : World) (hA : Cells w A 10 n (flgAt F)) :
    Calls Tryd.prog 43 #[.slice A n c, .int .i64 (k : Int), .bool h] w fun e W' => e = .returned (.tuple #[.int .i64 (nextP F n k h : Int), .bool (overP F k h)]) ∧ Below w.heap.size w W' := by
  have HA := Lib.hid hA
  have HC := Lib.hid hc
  obtain ⟨ab, ao, rfl, had, hcl⟩ := hA (by omega)
  obtain ⟨hs0, hs1, _, _⟩ := chkF_zero hc
  have c0 : w.cell? ⟨ab, ao + k * 10, none⟩ = some (.bool (F k).last) := hcl k 0 hk (by decide)
  have c1 : w.cell? ⟨ab, ao + k * 10 + 1, none⟩ = some (.bool (F k).next) := hcl k 1 hk (by decide)
  have c2 : w.cell? ⟨ab, ao + k * 10 + 2, none⟩ = some (.bool (F k).chain) := hcl k 2 hk (by decide)
  have c3 : w.cell? ⟨ab, ao + k * 10 + 3, none⟩ = some (.bool (F k).fin) := hcl k 3 hk (by decide)
  have c4 : w.cell? ⟨ab, ao + k * 10 + 4, none⟩ = some (.bool (F k).forb) := hcl k 4 hk (by decide)
  have c5 : w.cell? ⟨ab, ao + k * 10 + 5, none⟩ = some (.bool (F k).gone) := hcl k 5 hk (by decide)
  have c6 : w.cell? ⟨ab, ao + k * 10 + 6, none⟩ = some (.bool (F k).app) := hcl k 6 hk (by decide)
  have c7 : w.cell? ⟨ab, ao + k * 10 + 7, none⟩ = some (.bool (F k).disc) := hcl k 7 hk (by decide)
  have c8 : w.cell? ⟨ab, ao + k * 10 + 8, none⟩ = some (.int .i64 (F k).skip) := hcl k 8 hk (by decide)
  have c9 : w.cell? ⟨ab, ao + k * 10 + 9, none⟩ = some (.int .i64 (F k).red) := hcl k 9 hk (by decide)
  clear hcl hA hc
  generalize hbl : (F k).last = bl at c0
  generalize hbn : (F k).next = bn at c1
  generalize hbc : (F k).chain = bc at c2
  generalize hbi : (F k).fin = bi at c3
  generalize hbf : (F k).forb = bf at c4
  generalize hbg : (F k).gone = bg at c5
  generalize hba : (F k).app = ba at c6
  generalize hbd : (F k).disc = bd at c7
  generalize hsk : (F k).skip = sk at c8 hs0 hs1
  generalize hrd : (F k).red = rd at c9
  have HB := Lib.hid (And.intro hbl (And.intro hbn (And.intro hbc (And.intro hbi (And.intro hbf (And.intro hbg (And.intro hsk hrd)))))))
  clear hbl hbn hbc hbi hbf hbg hba hbd hsk hrd
  have HW := Lib.hid (gr_alloc (Below.refl w.heap.size w) (.cells #[.bool bl, .bool bn, .bool bc, .bool bi, .bool bf, .bool bg, .bool ba, .bool bd, .int .i64 sk, .int .i64 rd] 54))
  cases h with
  | false =>
    cases bc with
    | true =>
      go_enter Tryd.func43, Tryd.ntmps43
      go_wp2_with (fail)
      clear c0 c1 c2 c3 c4 c5 c6 c7 c8 c9
      go_loopw [10] (fun i wr => AfRel F n k w i wr) (fun i _ => n - (intOf i).toNat)
      case atStart =>
        refine ⟨k + 1, by omega, by omega, by go_num, fun j h1 h2 => ?_, HW.out⟩
        obtain rfl : j = k := by omega
        exact HB.out.2.2.1
      case round =>
        obtain ⟨m, hkm, hmn, rfl, hch, hbel⟩ := hrel
        have HR := Lib.hid (And.intro hch hbel)
        clear hch
        by_cases hlt : m < n
        · obtain ⟨ab', ao', e', had', hcl⟩ := (HA.out.below hbel) (by omega)
          cases e'
          have c2 : wr.cell? ⟨ab, ao + m * 10 + 2, none⟩ = some (.bool (F m).chain) := hcl m 2 hlt (by decide)
          clear hcl hbel
          cases hb : (F m).chain with
          | true =>
            rw [hb] at c2
            have HH := Lib.hid hb
            clear hb
            go_wp2_with (fail)
            refine ⟨⟨m + 1, by omega, by omega, by go_num, fun j h1 h2 => ?_, HR.out.2⟩, by simp [intOf]; omega⟩
            by_cases e : j = m
            · subst e; exact HH.out
            · exact HR.out.1 j h1 (by omega)
          | false =>
            rw [hb] at c2
            have he : chainTo F n n k = m := chainTo_is (by omega) ⟨by omega, by omega, HR.out.1, fun _ => hb⟩
            have HH := Lib.hid he
            clear hb he
            go_wp2_with (fail)
            go_ret2
            refine ⟨?_, HR.out.2⟩
            have e1 : nextP F n k false = m + 1 := by unfold nextP; rw [if_neg (by decide), HH.out]; omega
            rw [e1]
            show _ = Ending.returned (.tuple #[.int .i64 ((m + 1 : Nat) : Int), .bool false])
            go_num
        · obtain rfl : m = n := by omega
          have he : chainTo F m m k = m := chainTo_is (by omega) ⟨by omega, by omega, HR.out.1, fun h => absurd h (Nat.lt_irrefl _)⟩
          have HH := Lib.hid he
          clear he hbel
          go_wp2_with (fail)
          go_ret2
          refine ⟨?_, HR.out.2⟩
          have e1 : nextP F m k false = m := by unfold nextP; rw [if_neg (by decide), HH.out]; omega
          rw [e1]
          show Ending.returned (.tuple #[.int .i64 (min ((m : Int) + 1) (m : Int)), .bool false]) = .returned (.tuple #[.int .i64 (m : Int), .bool false])
          rw [show min ((m : Int) + 1) (m : Int) = (m : Int) by omega]
    | false =>
      have he : chainTo F n n k = k := chainTo_is (by omega) ⟨Nat.le_refl _, by omega, fun j h1 h2 => by omega, fun _ => HB.out.2.2.1⟩
      have e1 : nextP F n k false = k + 1 := by unfold nextP; rw [if_neg (by decide), he]; omega
      have HH := Lib.hid e1
      clear he e1
      go_enter Tryd.func43, Tryd.ntmps43
      go_wp2_with (fail)
      go_ret2
      refine ⟨?_, HW.out⟩
      rw [HH.out]
      show _ = Ending.returned (.tuple #[.int .i64 ((k + 1 : Nat) : Int), .bool false])
      go_num
  | true =>
    have hnx : ∀ x : Nat, (if bn = true then 0 else if (bi || bf || bg || !(rd == 0)) = true then n else if bl = true then n else min (k + 1 + sk.toNat) n) = x → nextP F n k true = x := by
      intro x hx
      unfold nextP
      rw [if_pos rfl, HB.out.1, HB.out.2.1, HB.out.2.2.2.1, HB.out.2.2.2.2.1, HB.out.2.2.2.2.2.1, HB.out.2.2.2.2.2.2.1, HB.out.2.2.2.2.2.2.2]
      exact hx
    have hov : ∀ x : Bool, (!bn && (bi || bf || bg || !(rd == 0))) = x → overP F k true = x := by
      intro x hx
      unfold overP
      rw [HB.out.2.1, HB.out.2.2.2.1, HB.out.2.2.2.2.1, HB.out.2.2.2.2.2.1, HB.out.2.2.2.2.2.2.2]
      exact hx
    have H2 := Lib.hid (And.intro hnx hov)
    clear hnx hov
    cases bn with
    | true =>
      go_enter Tryd.func43, Tryd.ntmps43
      go_wp2_with (fail)
      go_ret2
      rw [H2.out.1 0 rfl, H2.out.2 false rfl]
      exact ⟨rfl, HW.out⟩
    | false =>
      cases bl with
      | true =>
        obtain ⟨_, o1, o2, o3, o4⟩ := one_way HC.out HB.out.1
        rw [HB.out.2.2.2.1] at o1
        rw [HB.out.2.2.2.2.1] at o2
        rw [HB.out.2.2.2.2.2.1] at o3
        rw [HB.out.2.2.2.2.2.2.2] at o4
        subst o1 o2 o3 o4
        go_enter Tryd.func43, Tryd.ntmps43
        go_wp2_with (fail)
        go_ret2
        rw [H2.out.1 n rfl, H2.out.2 false rfl]
        exact ⟨rfl, HW.out⟩
      | false =>
        have hrr : (!(rd == 0)) = (rd != 0) := rfl
        cases hrb : (rd != 0) <;> cases bi <;> cases bf <;> cases bg
        all_goals
          rw [hrr, hrb] at H2
          clear hrr
          go_enter Tryd.func43, Tryd.ntmps43
          go_wp2_with (fail)
          go_ret2
        all_goals first
          | (rw [H2.out.1 n rfl, H2.out.2 true rfl]; exact ⟨rfl, HW.out⟩)
          | (refine ⟨?_, HW.out⟩
             rw [H2.out.1 (min (k + 1 + sk.toNat) n) rfl, H2.out.2 false rfl]
             show Ending.returned (.tuple #[.int .i64 (min ((k : Int) + 1 + sk) (n : Int)), .bool false]) = .returned (.tuple #[.int .i64 ((min (k + 1 + sk.toNat) n : Nat) : Int), .bool false])
             rw [show min ((k : Int) + 1 + sk) (n : Int) = ((min (k + 1 + sk.toNat) n : Nat) : Int) by omega])
end Go.Proofs.YtjkmkpehnnkpiaaDoor
