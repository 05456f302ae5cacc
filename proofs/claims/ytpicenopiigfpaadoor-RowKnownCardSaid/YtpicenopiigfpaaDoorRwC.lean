/-
  row.Bare, walked: a string that is written as it is; condition: strings of at most 1000000000 bytes.
-/
import Derived.Test.YtpicenopiigfpaaDoorRwB
namespace Go.Proofs.YtpicenopiigfpaaDoor
open Go.RowKit
set_option linter.unusedVariables false
set_option linter.unusedSimpArgs false

theorem barN_iff (l : List UInt8) : barN l = l.length ↔ l.all bareC = true := by
  induction l with
  | nil => exact ⟨fun _ => rfl, fun _ => rfl⟩
  | cons c t ih =>
    unfold barN
    rw [List.all_cons, List.length_cons]
    cases hb : bareC c
    · rw [if_neg (by decide)]
      exact ⟨fun h => by omega, fun h => by cases h⟩
    · rw [if_pos rfl, Bool.true_and, ← ih]; omega
theorem sizeScan : (Tryd.prog.info? 59).map (fun i => i.size) = some 2 := by kernel_rfl
set_option maxRecDepth 100000 in
set_option maxHeartbeats 2000000 in
theorem wBare (s : ByteArray) (w : World) (hs : s.size ≤ 1000000000) :
    Calls Tryd.prog 18 #[.string s] w fun e w' => e = .returned (.bool (bareW s.data.toList)) ∧ Below w.heap.size w w' := by
  have hsc : ScanAt (w.alloc (.cells #[.string s, .int .i64 ((0 : Nat) : Int)] 59)) w.heap.size 59 #[.string s, .int .i64 ((0 : Nat) : Int)] 0 := Blk.new w _ _
  have hba := wbare s w.heap.size 0 _ _ _ hs (Nat.zero_le _) rfl (by simp) hsc
  have hle := barN_size s (Nat.zero_le s.size)
  rw [List.drop_zero, Nat.zero_add] at hba hle
  have HB := Lib.hid hba
  clear hba hsc
  go_enter Tryd.func18, Tryd.ntmps18
  go_wp2_with (fail)
  refine HB.out.mono ?_
  rintro e W ⟨rfl, hsc, hgr⟩
  obtain ⟨c0, c1, f1, hl⟩ := hsc.facts rfl (by simp)
  have hbl : Below w.heap.size w W := ((Below.refl w.heap.size w).alloc (Nat.le_refl _) _).grown hgr (by simp) (by rintro k hk; cases hk; exact Nat.le_refl _)
  have hn : (decide (0 < barN s.data.toList) && endL (s.data.toList.drop (barN s.data.toList))) = true ∧ barN s.data.toList = s.size ∧ (∃ x, s.data.toList.head? = some x ∧ ((x.toNat : Int) != 35) = bareW s.data.toList) ∨
      bareW s.data.toList = false ∧ ((decide (0 < barN s.data.toList) && endL (s.data.toList.drop (barN s.data.toList))) = false ∨ (decide (0 < barN s.data.toList) && endL (s.data.toList.drop (barN s.data.toList))) = true ∧ ((barN s.data.toList : Int) == (s.size : Int)) = false) := by
    have hi := barN_iff s.data.toList
    rw [size_data] at hi
    by_cases hz : barN s.data.toList = s.size
    · rcases Nat.eq_zero_or_pos s.size with h0 | h0
      · refine .inr ⟨?_, .inl ?_⟩
        · have : s.data.toList = [] := List.length_eq_zero_iff.1 (by rw [size_data]; exact h0)
          rw [this]; rfl
        · rw [hz, h0]; rfl
      · refine .inl ⟨?_, hz, ?_⟩
        · rw [hz, decide_eq_true h0, drop_end s _ (Nat.le_refl _)]; rfl
        · have hall := hi.1 hz
          cases e : s.data.toList with
          | nil => have := congrArg List.length e; rw [size_data] at this; rw [List.length_nil] at this; omega
          | cons c t =>
            rw [e] at hall
            refine ⟨c, rfl, ?_⟩
            unfold bareW
            rw [hall, decide_eq_true (by simp), List.head?_cons]
            by_cases h35 : c = 35
            · subst h35; rfl
            · have h2 : c.toNat ≠ 35 := fun h => h35 (UInt8.toNat_inj.1 (by rw [h]; rfl))
              rw [decide_eq_true (by simpa using h35)]
              simp; omega
    · refine .inr ⟨?_, ?_⟩
      · have : s.data.toList.all bareC = false := by
          cases h : s.data.toList.all bareC
          · rfl
          · exact absurd (hi.2 h) hz
        unfold bareW
        rw [this]; simp
      · cases (decide (0 < barN s.data.toList) && endL (s.data.toList.drop (barN s.data.toList)))
        · exact .inl rfl
        · exact .inr ⟨rfl, beq_eq_false_iff_ne.2 (by omega)⟩
  obtain ⟨n, hbn⟩ : ∃ n, n = barN s.data.toList := ⟨_, rfl⟩
  unfold bareR at *
  simp only [List.drop_zero, Nat.zero_add] at *
  rw [← hbn] at c1 hle hn ⊢
  rcases hn with ⟨e1, e2, x, e3, e4⟩ | ⟨e0, e1 | ⟨e1, e2⟩⟩
  · have hx : ∃ h : 0 < s.size, s[0] = x := by
      cases e : s.data.toList with
      | nil => rw [e] at e3; cases e3
      | cons c t =>
        rw [e] at e3
        have h0 : 0 < s.size := by rw [← size_data, e]; simp
        refine ⟨h0, ?_⟩
        have := drop_at s 0 h0
        rw [List.drop_zero, e] at this
        have h1 := (List.cons.inj this).1
        rw [← h1]; exact Option.some.inj e3
    obtain ⟨h0, hx⟩ := hx
    have h0i : (0 : Int) < s.size := by omega
    have E := Lib.hid (And.intro e4 hbl)
    have heq : ((n : Int) == (s.size : Int)) = true := beq_iff_eq.2 (by omega)
    clear e2 e3 e4 hbl hbn hsc hgr
    have hxb := u8_bound x
    rw [e1]
    clear e1
    cases hb : ((x.toNat : Int) != 35)
    all_goals
      go_wp2_with (fail)
      go_ret
      exact ⟨by rw [← E.out.1, hb]; rfl, E.out.2⟩
  · have E := Lib.hid (And.intro e0 hbl)
    clear hbl hbn hsc hgr e0
    rw [e1]
    clear e1
    go_wp2_with (fail)
    go_ret
    exact ⟨by rw [E.out.1]; rfl, E.out.2⟩
  · have E := Lib.hid (And.intro e0 hbl)
    clear hbl hbn hsc hgr e0
    rw [e1]
    clear e1
    go_wp2_with (fail)
    go_ret
    exact ⟨by rw [E.out.1]; rfl, E.out.2⟩
end Go.Proofs.YtpicenopiigfpaaDoor
