/-
  row's scanner: plain, blanks, over, bare, and Bare, walked; condition: strings of at most 1000000000 bytes.
-/
import Derived.Test.YtpicenopiigfpaaDoorRwLw
import Derived.Test.YtpicenopiigfpaaDoorRow
import Derived.Test.YtpicenopiigfpaaDoorProg
import Derived.WalkSpells
import Derived.WalkLawsBesides
import Derived.Deep.LoopGhost
import Derived.Deep.QuietTactic
import Derived.BigQuiet
namespace Go.Proofs.YtpicenopiigfpaaDoor
open Go.RowKit
set_option linter.unusedVariables false
set_option linter.unusedSimpArgs false

set_option maxRecDepth 100000 in
set_option maxHeartbeats 400000 in
theorem wplain (c : UInt8) (w : World) :
    Calls Tryd.prog 51 #[.int .u8 (c.toNat : Int)] w fun e w' => e = .returned (.bool (bareC c)) ∧ w = w' := by
  have hb := u8_bound c
  by_cases h1 : 33 ≤ c.toNat
  · by_cases h2 : c.toNat ≤ 126
    · by_cases h3 : c.toNat = 34
      · have e : Hid (bareC c = false) := Lib.hid (by unfold bareC; rw [decide_eq_true h1, decide_eq_true h2, decide_eq_false (by omega)]; rfl)
        have a1 : (33 : Int) ≤ c.toNat := by omega
        have a2 : (c.toNat : Int) ≤ 126 := by omega
        have a3 : ((c.toNat : Int) != 34) = false := by simp; omega
        clear h1 h2 h3
        go_enter Tryd.func51, Tryd.ntmps51
        go_wp2_with (fail)
        go_ret
        exact ⟨by rw [e.out]; rfl, rfl⟩
      · have e : Hid (bareC c = true) := Lib.hid (by unfold bareC; rw [decide_eq_true h1, decide_eq_true h2, decide_eq_true h3]; rfl)
        have a1 : (33 : Int) ≤ c.toNat := by omega
        have a2 : (c.toNat : Int) ≤ 126 := by omega
        have a3 : ((c.toNat : Int) != 34) = true := by simp; omega
        clear h1 h2 h3
        go_enter Tryd.func51, Tryd.ntmps51
        go_wp2_with (fail)
        go_ret
        exact ⟨by rw [e.out]; rfl, rfl⟩
    · have e : Hid (bareC c = false) := Lib.hid (by unfold bareC; rw [decide_eq_true h1, decide_eq_false h2]; rfl)
      have a1 : (33 : Int) ≤ c.toNat := by omega
      have a2 : ¬ (c.toNat : Int) ≤ 126 := by omega
      clear h1 h2
      go_enter Tryd.func51, Tryd.ntmps51
      go_wp2_with (fail)
      go_ret
      exact ⟨by rw [e.out]; rfl, rfl⟩
  · have e : Hid (bareC c = false) := Lib.hid (by unfold bareC; rw [decide_eq_false h1]; rfl)
    have a1 : ¬ (33 : Int) ≤ c.toNat := by omega
    clear h1
    go_enter Tryd.func51, Tryd.ntmps51
    go_wp2_with (fail)
    go_ret
    exact ⟨by rw [e.out]; rfl, rfl⟩

/-! What stands at a place. -/
theorem blN_drop {s : ByteArray} {k : Nat} (h : k < s.size) : blN (s.data.toList.drop k) = if isBl s[k] then blN (s.data.toList.drop (k + 1)) + 1 else 0 := by
  rw [drop_at s k h]
  conv => lhs; unfold blN
theorem barN_drop {s : ByteArray} {k : Nat} (h : k < s.size) : barN (s.data.toList.drop k) = if bareC s[k] then barN (s.data.toList.drop (k + 1)) + 1 else 0 := by
  rw [drop_at s k h]
  conv => lhs; unfold barN
theorem bl_cases (c : UInt8) : (isBl c = true ∧ ((c.toNat : Int) == 32) = true) ∨ (isBl c = true ∧ ((c.toNat : Int) == 32) = false ∧ ((c.toNat : Int) == 9) = true) ∨ (isBl c = false ∧ ((c.toNat : Int) == 32) = false ∧ ((c.toNat : Int) == 9) = false) := by
  by_cases h1 : c.toNat = 32
  · exact .inl ⟨by unfold isBl; rw [decide_eq_true h1]; rfl, beq_iff_eq.2 (by omega)⟩
  · by_cases h2 : c.toNat = 9
    · exact .inr (.inl ⟨by unfold isBl; rw [decide_eq_true h2]; simp, beq_eq_false_iff_ne.2 (by omega), beq_iff_eq.2 (by omega)⟩)
    · exact .inr (.inr ⟨by unfold isBl; rw [decide_eq_false h1, decide_eq_false h2]; rfl, beq_eq_false_iff_ne.2 (by omega), beq_eq_false_iff_ne.2 (by omega)⟩)
theorem set_same {cs : Array Value} {i : Nat} {v : Value} (h : cs[i]? = some v) : cs.setIfInBounds i v = cs := by
  apply Array.ext_getElem?
  intro j
  rw [Array.getElem?_setIfInBounds]
  by_cases e : i = j
  · subst e
    rw [if_pos rfl]
    have := (Array.getElem?_eq_some_iff.1 h).1
    rw [if_pos this, h]
  · rw [if_neg e]
theorem set_set {cs : Array Value} {i : Nat} {u v : Value} : (cs.setIfInBounds i u).setIfInBounds i v = cs.setIfInBounds i v := by
  apply Array.ext_getElem?
  intro j
  rw [Array.getElem?_setIfInBounds, Array.getElem?_setIfInBounds, Array.getElem?_setIfInBounds]
  by_cases e : i = j
  · rw [if_pos e, if_pos e]
    by_cases h : i < cs.size
    · rw [if_pos (by simpa using h), if_pos h]
    · rw [if_neg (by simpa using h), if_neg h]
  · rw [if_neg e, if_neg e, if_neg e]
theorem get_set {cs : Array Value} {i : Nat} {v : Value} (h : i < cs.size) : (cs.setIfInBounds i v)[i]? = some v := by
  rw [Array.getElem?_setIfInBounds, if_pos rfl, if_pos h]
theorem get_far {cs : Array Value} {i j : Nat} {v : Value} (h : i ≠ j) : (cs.setIfInBounds i v)[j]? = cs[j]? := by
  rw [Array.getElem?_setIfInBounds, if_neg h]
/-- A scanner at a place. -/
def ScanAt (W : World) (b : Nat) (T : TypeId) (cs : Array Value) (k : Nat) : Prop := Blk W b T (cs.setIfInBounds 1 (.int .i64 (k : Int)))
theorem ScanAt.facts {W : World} {b : Nat} {T : TypeId} {cs : Array Value} {k : Nat} {s : ByteArray} (h : ScanAt W b T cs k) (g0 : cs[0]? = some (.string s)) (g1 : 1 < cs.size) :
    W.cell? ⟨b, 0, none⟩ = some (.string s) ∧ W.cell? ⟨b, 1, none⟩ = some (.int .i64 (k : Int)) ∧ W.frozen? ⟨b, 1, none⟩ = false ∧ b < W.heap.size :=
  ⟨h.cell' (by rw [get_far (by decide)]; exact g0), h.cell' (get_set g1), h.frozen 1, h.lt⟩
theorem ScanAt.step {W : World} {b : Nat} {T : TypeId} {cs : Array Value} {k k' : Nat} (h : ScanAt W b T cs k) : ScanAt (W.setCell ⟨b, 1, none⟩ (.int .i64 (k' : Int))) b T cs k' := by
  have := h.set_ 1 (.int .i64 (k' : Int))
  rw [set_set] at this
  exact this

set_option maxRecDepth 100000 in
set_option maxHeartbeats 2000000 in
theorem wblanks (s : ByteArray) (b k0 : Nat) (T : TypeId) (cs : Array Value) (w : World) (hs : s.size ≤ 1000000000) (hk0 : k0 ≤ s.size) (g0 : cs[0]? = some (.string s)) (g1 : 1 < cs.size) (hb : ScanAt w b T cs k0) :
    Calls Tryd.prog 47 #[.pointer (some ⟨b, 0, none⟩)] w fun e w' => e = .returned (.tuple #[]) ∧ ScanAt w' b T cs (k0 + blN (s.data.toList.drop k0)) ∧ w.grownBy w' (some b) := by
  have HB := Lib.hid (And.intro g0 (And.intro g1 hb))
  clear g0 g1 hb
  go_enter Tryd.func47, Tryd.ntmps47
  go_wp2_with (fail)
  go_loopg [] (s.size - k0) (fun n wr => ∃ k : Nat, n = s.size - k ∧ k ≤ s.size ∧ k + blN (s.data.toList.drop k) = k0 + blN (s.data.toList.drop k0) ∧ ScanAt wr b T cs k ∧ w.grownBy wr (some b))
  case atStart => exact ⟨k0, rfl, hk0, rfl, HB.out.2.2, only_refl _ _⟩
  case round =>
    obtain ⟨k, hn, hk, hsum, hsc, hgr⟩ := hrel
    obtain ⟨c0, c1, f1, hl⟩ := hsc.facts HB.out.1 HB.out.2.1
    by_cases hlt : k < s.size
    · have hii : (k : Int) < s.size := by omega
      have hi0 : (0 : Int) ≤ k := by omega
      obtain ⟨x, hx⟩ : ∃ x, x = s[k] := ⟨_, rfl⟩
      have hxs : s[k] = x := hx.symm
      have hd := blN_drop hlt
      rw [hxs] at hd
      have hxb := u8_bound x
      have A := Lib.hid (And.intro hn (And.intro hsum (And.intro hsc (And.intro hgr hd))))
      clear hn hsum hsc hgr hd hx
      rcases bl_cases x with ⟨hb, e1⟩ | ⟨hb, e1, e2⟩ | ⟨hb, e1, e2⟩
      · have HX := Lib.hid hb
        clear hb
        go_wp2_with (fail)
        go_quiet (fail)
        go_wp2_with (fail)
        go_roundg (s.size - (k + 1))
        case measure => have := A.out.1; omega
        case rel =>
          refine ⟨k + 1, rfl, hlt, ?_, (show ScanAt _ b T cs k from A.out.2.2.1).step, only_setCell (only_drewN A.out.2.2.2.1 _) (.inl rfl) _⟩
          rw [← A.out.2.1, A.out.2.2.2.2, if_pos HX.out]; omega
      · have HX := Lib.hid hb
        clear hb
        go_wp2_with (fail)
        go_quiet (fail)
        go_wp2_with (fail)
        go_roundg (s.size - (k + 1))
        case measure => have := A.out.1; omega
        case rel =>
          refine ⟨k + 1, rfl, hlt, ?_, (show ScanAt _ b T cs k from A.out.2.2.1).step, only_setCell (only_drewN A.out.2.2.2.1 _) (.inl rfl) _⟩
          rw [← A.out.2.1, A.out.2.2.2.2, if_pos HX.out]; omega
      · have HX := Lib.hid hb
        clear hb
        go_wp2_with (fail)
        go_quiet (fail)
        go_wp2_with (fail)
        go_end0
        refine ⟨rfl, ?_, only_drewN A.out.2.2.2.1 _⟩
        have h0 := A.out.2.1
        rw [A.out.2.2.2.2, HX.out, if_neg (by decide), Nat.add_zero] at h0
        rw [← h0]
        exact A.out.2.2.1
    · have hke : k = s.size := by omega
      have A := Lib.hid (And.intro hsum (And.intro hsc hgr))
      clear hn hsum hsc hgr
      go_wp2_with (fail)
      go_quiet (fail)
      go_wp2_with (fail)
      go_end0
      refine ⟨rfl, ?_, only_drewN A.out.2.2 _⟩
      have h0 := A.out.1
      rw [drop_end s k (by omega), show blN [] = 0 from rfl, Nat.add_zero] at h0
      rw [← h0]
      exact A.out.2.1
end Go.Proofs.YtpicenopiigfpaaDoor
