/-
  The machine of a pass: over, chain, try, walked: the plain function; condition: none.
-/
import Derived.Test.YtjkmkpehnnkpiaaDoorPasB
import Derived.BigQuiet
import Derived.StillTailTactics
import Derived.Deep.LoopGhost
namespace Go.Proofs.YtjkmkpehnnkpiaaDoor
open Go.RowKit Go.Joins
set_option linter.unusedVariables false
set_option linter.unusedSimpArgs false

theorem set_same {cs : Array Value} {i : Nat} {v : Value} (h : cs[i]? = some v) : cs.setIfInBounds i v = cs := by
  apply Array.ext_getElem?
  intro j
  by_cases e : i = j
  · subst e
    obtain ⟨hlt, he⟩ := Array.getElem?_eq_some_iff.1 h
    rw [Array.getElem?_setIfInBounds_self, if_pos hlt, h]
  · rw [Array.getElem?_setIfInBounds_ne e]
theorem set_twice {cs : Array Value} {i : Nat} {u v : Value} : (cs.setIfInBounds i u).setIfInBounds i v = cs.setIfInBounds i v := by
  apply Array.ext_getElem?
  intro j
  by_cases e : i = j
  · subst e
    simp only [Array.getElem?_setIfInBounds_self, Array.size_setIfInBounds]
  · rw [Array.getElem?_setIfInBounds_ne e, Array.getElem?_setIfInBounds_ne e, Array.getElem?_setIfInBounds_ne e]
theorem set_get {cs : Array Value} {i : Nat} {v u : Value} (h : cs[i]? = some u) : (cs.setIfInBounds i v)[i]? = some v := by
  obtain ⟨hlt, _⟩ := Array.getElem?_eq_some_iff.1 h
  rw [Array.getElem?_setIfInBounds_self, if_pos hlt]
theorem set_other {cs : Array Value} {i j : Nat} {v u : Value} (hij : i ≠ j) (h : cs[j]? = some u) : (cs.setIfInBounds i v)[j]? = some u := by
  rw [Array.getElem?_setIfInBounds_ne hij]; exact h

set_option maxRecDepth 100000 in
set_option maxHeartbeats 400000 in
theorem pover (B : Nat) (A : Option Addr) (n c : Nat) (t : Int) (w : World) (hn : n ≤ 1000000) (h0 : w.cell? ⟨B, 0, none⟩ = some (.slice A n c)) (h1 : w.cell? ⟨B, 1, none⟩ = some (.int .i64 t)) :
    Calls Tryd.prog 50 #[.pointer (some ⟨B, 0, none⟩)] w fun e w' => e = .returned (.bool (t == n)) ∧ ∃ q, w' = w.drewN q := by
  go_enter Tryd.func50, Tryd.ntmps50
  go_wp2
  go_quiet (fail)
  go_wp2
  go_ret
  exact ⟨rfl, _, rfl⟩
theorem pover_yes (B : Nat) (A : Option Addr) (n c : Nat) (w : World) (hn : n ≤ 1000000) (h0 : w.cell? ⟨B, 0, none⟩ = some (.slice A n c)) (h1 : w.cell? ⟨B, 1, none⟩ = some (.int .i64 (n : Int))) :
    Calls Tryd.prog 50 #[.pointer (some ⟨B, 0, none⟩)] w fun e w' => e = .returned (.bool true) ∧ ∃ q, w' = w.drewN q :=
  (pover B A n c n w hn h0 h1).mono fun e w' ⟨he, h⟩ => ⟨by rw [he]; simp, h⟩
theorem pover_no (B : Nat) (A : Option Addr) (n c m : Nat) (hm : m < n) (w : World) (hn : n ≤ 1000000) (h0 : w.cell? ⟨B, 0, none⟩ = some (.slice A n c)) (h1 : w.cell? ⟨B, 1, none⟩ = some (.int .i64 (m : Int))) :
    Calls Tryd.prog 50 #[.pointer (some ⟨B, 0, none⟩)] w fun e w' => e = .returned (.bool false) ∧ ∃ q, w' = w.drewN q :=
  (pover B A n c m w hn h0 h1).mono fun e w' ⟨he, h⟩ => ⟨by rw [he]; congr 2; exact beq_eq_false_iff_ne.2 (by omega), h⟩

theorem quiet_one {P : Program} {f : FuncId} {args : Array Value} {w : World} {n : Nat} {v : Value}
    (h : Calls P f args (w.drewN n) fun e w' => e = .returned v ∧ ∃ m, w' = (w.drewN n).drewN m) :
    Calls P f args (w.drewN n) fun e w'' => e = .returned v ∧ ∃ m, w'' = w.drewN m :=
  h.mono fun _ _ ⟨he, m, hm⟩ => ⟨he, n + m, by rw [hm, World.drewN_drewN]⟩
def ChRel (F : Nat → Flg) (n k B : Nat) (T : TypeId) (cs : Array Value) (w : World) (l : Nat) (wr : World) : Prop :=
  ∃ m : Nat, k ≤ m ∧ m ≤ n ∧ l = n - m ∧ (∀ j, k ≤ j → j < m → (F j).chain = true) ∧ Blk wr B T (cs.setIfInBounds 1 (.int .i64 (m : Int))) ∧ w.grownBy wr (some B)

set_option maxRecDepth 100000 in
set_option maxHeartbeats 4000000 in
theorem pchain (F : Nat → Flg) (B : Nat) (T : TypeId) (cs : Array Value) (A : Option Addr) (n c k : Nat) (hn : n ≤ 1000000) (hk : k < n) (w : World) (hA : Cells w A 10 n (flgAt F)) (hAB : ∀ a, A = some a → a.block ≠ B)
    (hb : Blk w B T cs) (g0 : cs[0]? = some (.slice A n c)) (g1 : cs[1]? = some (.int .i64 (k : Int))) :
    Calls Tryd.prog 51 #[.pointer (some ⟨B, 0, none⟩)] w fun e w' => e = .returned (.tuple #[]) ∧ Blk w' B T (cs.setIfInBounds 1 (.int .i64 (nextP F n k false : Int))) ∧ w.grownBy w' (some B) := by
  have HH := Lib.hid (And.intro hA (And.intro hAB (And.intro hb (And.intro g0 g1))))
  clear hA hAB hb g0 g1
  go_enter Tryd.func51, Tryd.ntmps51
  go_wp2_with (fail)
  go_loopg [] (n - k) (fun l wr => ChRel F n k B T cs w l wr)
  case atStart =>
    refine ⟨k, Nat.le_refl _, by omega, rfl, fun j h1 h2 => by omega, ?_, only_refl _ _⟩
    rw [set_same HH.out.2.2.2.2]
    exact HH.out.2.2.1
  case round =>
    obtain ⟨m, hkm, hmn, hl, hch, hblk, hgr⟩ := hrel
    have h0 := hblk.cell' (i := 0) (set_other (by decide) HH.out.2.2.2.1)
    have h1 := hblk.cell' (i := 1) (set_get HH.out.2.2.2.2)
    have hf1 := hblk.frozen 1
    have hBl := hblk.lt
    have HR := Lib.hid (And.intro hl (And.intro hch (And.intro hblk hgr)))
    have hA' := HH.out.1.grown hgr (by rintro a k rfl e; cases e; exact HH.out.2.1 _ rfl)
    clear hch hblk hgr hl
    by_cases hlt : m < n
    · obtain ⟨ab, ao, rfl, had, hcl⟩ := hA' (by omega)
      have c2 : wr.cell? ⟨ab, ao + m * 10 + 2, none⟩ = some (.bool (F m).chain) := hcl m 2 hlt (by decide)
      clear hcl hA'
      have hov := fun q => pover_no B (some ⟨ab, ao, none⟩) n c m hlt (wr.drewN q) hn (by exact h0) (by exact h1)
      cases hb : (F m).chain with
      | true =>
        rw [hb] at c2
        have HB := Lib.hid hb
        clear hb
        go_wp2_with (fail)
        go_quiet ((go_at_call 50; exact quiet_one (hov _)))
        go_wp2_with (fail)
        go_roundg (n - (m + 1))
        case measure => have := HR.out.1; omega
        case rel =>
          refine ⟨m + 1, by omega, by omega, rfl, fun j h1 h2 => ?_, ?_, ?_⟩
          · by_cases e : j = m
            · subst e; exact HB.out
            · exact HR.out.2.1 j h1 (by omega)
          · have := (HR.out.2.2.1.drewN nq).set_ 1 (.int .i64 ((m : Int) + 1))
            rw [set_twice] at this
            exact this
          · exact only_setCell (only_drewN HR.out.2.2.2 nq) (Or.inl rfl) _
      | false =>
        rw [hb] at c2
        have he : chainTo F n n k = m := chainTo_is (by omega) ⟨by omega, by omega, HR.out.2.1, fun _ => hb⟩
        have HE := Lib.hid he
        clear hb he
        go_wp2_with (fail)
        go_quiet ((go_at_call 50; exact quiet_one (hov _)))
        go_wp2_with (fail)
        go_region
        go_wp2_with (fail)
        refine bodyPost_end (v := .tuple #[]) (by simp [results, Tryd.results51, go_sem]) rfl ⟨rfl, ?_, only_setCell (only_drewN HR.out.2.2.2 _) (Or.inl rfl) _⟩
        have e1 : nextP F n k false = m + 1 := by unfold nextP; rw [if_neg (by decide), HE.out]; omega
        have h2 := (HR.out.2.2.1.drewN (nq + 1)).set_ 1 (.int .i64 (min ((m : Int) + 1) (n : Int)))
        rw [set_twice, show min ((m : Int) + 1) (n : Int) = ((m + 1 : Nat) : Int) by omega] at h2
        rw [e1]
        rw [show min ((m : Int) + 1) (n : Int) = ((m + 1 : Nat) : Int) by omega]
        exact h2
    · obtain rfl : m = n := by omega
      have he : chainTo F m m k = m := chainTo_is (by omega) ⟨by omega, by omega, HR.out.2.1, fun h => absurd h (Nat.lt_irrefl _)⟩
      have HE := Lib.hid he
      have hov := fun q => pover_yes B A m c (wr.drewN q) hn (by exact h0) (by exact h1)
      clear he hA'
      go_wp2_with (fail)
      go_quiet ((go_at_call 50; exact quiet_one (hov _)))
      go_wp2_with (fail)
      go_region
      go_wp2_with (fail)
      refine bodyPost_end (v := .tuple #[]) (by simp [results, Tryd.results51, go_sem]) rfl ⟨rfl, ?_, only_setCell (only_drewN HR.out.2.2.2 _) (Or.inl rfl) _⟩
      have e1 : nextP F m k false = m := by unfold nextP; rw [if_neg (by decide), HE.out]; omega
      have h2 := (HR.out.2.2.1.drewN (nq + 1)).set_ 1 (.int .i64 (min ((m : Int) + 1) (m : Int)))
      rw [set_twice, show min ((m : Int) + 1) (m : Int) = (m : Int) by omega] at h2
      rw [e1]
      rw [show min ((m : Int) + 1) (m : Int) = (m : Int) by omega]
      exact h2
end Go.Proofs.YtjkmkpehnnkpiaaDoor
