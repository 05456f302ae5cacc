/-
  PassAfter, walked: it returns true, whatever the input; condition: the two tables lie as they are laid.
-/
import Derived.Test.YtjkmkpehnnkpiaaDoorPasL
namespace Go.Proofs.YtjkmkpehnnkpiaaDoor
open Go.RowKit Go.Joins Go.Shelf
set_option linter.unusedVariables false
set_option linter.unusedSimpArgs false

set_option maxRecDepth 100000 in
set_option maxHeartbeats 4000000 in
theorem lown (F : Nat → Flg) (A : Option Addr) (n c : Nat) (hn : n ≤ 1000000) (w : World) (hA : ArgOk A n c) (hc : Cells w A 10 n (flgAt F)) :
    Calls Tryd.prog 12 #[.slice A n c] w fun e W' => ∃ B d, e = .returned (.slice B n d) ∧ Cells W' B 10 n (flgAt F) ∧ ArgOk B n d ∧ Below w.heap.size w W' ∧ ∀ a, B = some a → w.heap.size ≤ a.block ∧ a.block < W'.heap.size := by
  obtain ⟨i1, hi1, hz10, hz11, hz12⟩ := info_parts infoFlg
  have HA := Lib.hid (And.intro hA hc)
  clear hA hc
  go_enter Tryd.func12, Tryd.ntmps12
  go_wp2_with (at_builtin; refine append_any rfl _ _ 22 rfl w.heap.size 54 i1 _ 10 24 Tryd.underlying22 hi1 hz10 hz11 hz12 rfl (by decide) _ rfl (own_empty w w.heap.size 54 10 (Nat.le_refl _)) A n c (flgAt F) rfl HA.out.1 ?c1 ?c2 ?c3 ?c4 ?c5 ?_)
  case c1 => exact HA.out.2.below ((Below.refl w.heap.size w).alloc (Nat.le_refl _) _)
  case c2 => exact flgAt_one F
  case c3 => unfold maxLen; omega
  case c4 => omega
  case c5 => simp
  intro v1 W1 hown1 hgrow1
  have b1 : Below w.heap.size w W1 := (gr_alloc (Below.refl w.heap.size w) _).grown hgrow1 (by simp) (by intro k hk; simp [Value.ownBlock] at hk; omega)
  obtain ⟨B1, d1, rfl, q1, ok1⟩ := row_cells (by decide) hown1
  have fr : ∀ a, B1 = some a → w.heap.size ≤ a.block ∧ a.block < W1.heap.size := fun a ha => hown1.lt a.block (by rw [ha]; rfl)
  have H := Lib.hid (And.intro b1 (And.intro q1 (And.intro ok1 fr)))
  clear b1 q1 ok1 hown1 hgrow1 fr
  go_wp2_with (fail)
  go_ret
  exact ⟨B1, d1, rfl, H.out.2.1, H.out.2.2.1, H.out.1, H.out.2.2.2⟩

set_option maxRecDepth 100000 in
set_option maxHeartbeats 4000000 in
theorem law_after (F : Nat → Flg) (hF : SkipOk F) (A : Option Addr) (n c : Nat) (r : Int) (hr : -9223372036854775808 ≤ r ∧ r ≤ 9223372036854775807) (h : Bool) (w : World) (hT : Tabs w) (hA : ArgOk A n c) (hc : Cells w A 10 n (flgAt F)) :
    Calls Tryd.prog 3 #[.slice A n c, .int .i64 r, .bool h] w fun e W' => e = .returned (.bool true) ∧ Below w.heap.size w W' := by
  have HH := Lib.hid (And.intro hF (And.intro hT (And.intro hA (And.intro hc hr))))
  clear hF hT hA hc hr
  by_cases hn : 100 < n
  · have hn' : (100 : Int) < (n : Int) := by omega
    go_enter Tryd.func3, Tryd.ntmps3
    go_wp2_with (fail)
    refine (awake _ HH.out.2.1).mono ?_
    rintro e W1 ⟨rfl, h1⟩
    have H1 := Lib.hid h1
    clear h1
    go_wp2_with (fail)
    go_ret
    exact ⟨rfl, H1.out⟩
  · have hn' : ¬ ((100 : Int) < (n : Int)) := by omega
    go_enter Tryd.func3, Tryd.ntmps3
    go_wp2_with (fail)
    refine (lown F A n c (by omega) _ HH.out.2.2.1 HH.out.2.2.2.1).mono ?_
    rintro e W1 ⟨B, d, rfl, k1, k2, k3, _⟩
    have H1 := Lib.hid (And.intro k1 (And.intro k2 k3))
    clear k1 k2 k3
    go_wp2_with (fail)
    refine (pafter F HH.out.1 B n d r HH.out.2.2.2.2 h (by omega) _ (HH.out.2.1.below H1.out.2.2 (Nat.le_refl _)) H1.out.2.1 H1.out.1).mono ?_
    rintro e W2 ⟨rfl, h2⟩
    have H2 := Lib.hid (gr_call H1.out.2.2 h2)
    clear h2 H1
    generalize hv : afterV F n r h = v
    generalize hw : afterE F n r = x
    go_wp2_with (fail)
    refine (rafter2 F HH.out.1 A n c r HH.out.2.2.2.2 h (by omega) _ (HH.out.2.2.2.1.below H2.out)).mono ?_
    rintro e W3 ⟨rfl, h3⟩
    rw [hv, hw]
    have H3 := Lib.hid (gr_call H2.out h3)
    clear h3 H2 hv hw
    go_wp2_with (fail)
    refine (awake _ (HH.out.2.1.below H3.out (Nat.le_refl _))).mono ?_
    rintro e W4 ⟨rfl, h4⟩
    have H4 := Lib.hid (gr_call H3.out h4)
    clear h4 H3
    go_wp2_with (fail)
    go_ret
    exact ⟨rfl, H4.out⟩
end Go.Proofs.YtjkmkpehnnkpiaaDoor
