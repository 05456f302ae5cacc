/-
  query's Append and Canonical, walked; conditions: strings are not too long, a variable of the library is an int.
-/
import Derived.Test.YtfbkbnojbbpopaaDoorQyN
namespace Go.Proofs.YtfbkbnojbbpopaaDoor
open Go.RowKit
set_option linter.unusedVariables false
set_option linter.unusedSimpArgs false

theorem appE_one {q m : List UInt8} (h : chkL q ≠ 0) : appE q m = chkL q ∧ appS q m = mkB [] := by
  have : appE q m = chkL q := by unfold appE; rw [if_pos h]
  exact ⟨this, by unfold appS; rw [this, if_neg h]⟩
theorem appE_two {q m : List UInt8} (h : chkL q = 0) (h2 : chkL m ≠ 0) : appE q m = chkL m ∧ appS q m = mkB [] := by
  have : appE q m = chkL m := by unfold appE; rw [if_neg (by rw [h]; decide), if_pos h2]
  exact ⟨this, by unfold appS; rw [this, if_neg h2]⟩
theorem appE_empty {q m : List UInt8} (h : chkL q = 0) (h2 : chkL m = 0) (h3 : q = [] ∨ m = []) : appE q m = 0 ∧ appS q m = mkB (m ++ q) := by
  have : appE q m = 0 := by unfold appE; rw [if_neg (by rw [h]; decide), if_neg (by rw [h2]; decide), if_pos h3]
  exact ⟨this, by unfold appS; rw [this, if_pos rfl, if_pos h3]⟩
theorem appE_long {q m : List UInt8} (h : chkL q = 0) (h2 : chkL m = 0) (h3 : ¬ (q = [] ∨ m = [])) (h4 : 128 < q.length + 1 + m.length) : appE q m = 4 ∧ appS q m = mkB [] := by
  have : appE q m = 4 := by unfold appE; rw [if_neg (by rw [h]; decide), if_neg (by rw [h2]; decide), if_neg h3, if_pos h4]
  exact ⟨this, by unfold appS; rw [this, if_neg (by decide)]⟩
theorem appE_ok {q m : List UInt8} (h : chkL q = 0) (h2 : chkL m = 0) (h3 : ¬ (q = [] ∨ m = [])) (h4 : ¬ 128 < q.length + 1 + m.length) : appE q m = 0 ∧ appS q m = mkB (m ++ 38 :: q) := by
  have : appE q m = 0 := by unfold appE; rw [if_neg (by rw [h]; decide), if_neg (by rw [h2]; decide), if_neg h3, if_neg h4]
  exact ⟨this, by unfold appS; rw [this, if_pos rfl, if_neg h3]⟩
theorem nil_size {s : ByteArray} : s.data.toList = [] ↔ s.size = 0 := by
  rw [← size_data, List.length_eq_zero_iff]
def AppPost (w : World) (q m : ByteArray) (e : Ending) (W' : World) : Prop := e = .returned (.tuple #[.string (appS q.data.toList m.data.toList), .int .i64 (appE q.data.toList m.data.toList)]) ∧ Below w.heap.size w W'

set_option maxRecDepth 100000 in
set_option maxHeartbeats 4000000 in
theorem qappend (q m : ByteArray) (hq : q.size ≤ 1000000) (hm : m.size ≤ 1000000) (w : World) :
    Calls Tryd.prog 11 #[.string q, .string m] w (AppPost w q m) := by
  have hi0 : ∀ (a b : Value) (w : World), (Instr.index 52 (.agg #[a, b]) (.int .i64 0)).run Tryd.prog w = .ok a w := fun a b w => by kernel_rfl
  have hi1 : ∀ (a b : Value) (w : World), (Instr.index 52 (.agg #[a, b]) (.int .i64 1)).run Tryd.prog w = .ok b w := fun a b w => by kernel_rfl
  go_enter Tryd.func11, Tryd.ntmps11
  go_wp2_with (fail)
  go_loopw [12] (fun iv wr => ∃ k : Nat, k ≤ 2 ∧ iv = .int .i64 (k : Int) ∧ (1 ≤ k → chkL q.data.toList = 0) ∧ (2 ≤ k → chkL m.data.toList = 0) ∧ Below w.heap.size w wr) (fun iv _ => 2 - (intOf iv).toNat)
  case atStart => exact ⟨0, Nat.zero_le _, rfl, fun h => absurd h (by decide), fun h => absurd h (by decide), Below.refl _ _⟩
  case round =>
    obtain ⟨k, hk, rfl, hc1, hc2, hbel⟩ := hrel
    have B := Lib.hid (And.intro hbel (And.intro hc1 hc2))
    clear hbel hc1 hc2
    have hk3 : k = 0 ∨ k = 1 ∨ k = 2 := by omega
    rcases hk3 with rfl | rfl | rfl
    · go_wp2_with (fail)
      refine (qcheck q _ (by omega)).mono ?_
      rintro e W1 ⟨rfl, h1⟩
      have H1 := Lib.hid (gr_call B.out.1 h1)
      clear h1
      by_cases hc : chkL q.data.toList = 0
      · rw [hc]
        have HC := Lib.hid hc
        clear hc
        go_wp2_with (fail)
        go_roundw
        case rel => exact ⟨1, by decide, rfl, fun _ => HC.out, fun h => absurd h (by decide), H1.out⟩
        case measure => simp [intOf]
      · have HC := Lib.hid (appE_one (m := m.data.toList) hc)
        have hne : (chkL q.data.toList != 0) = true := by simpa using hc
        clear hc
        go_wp2_with (fail)
        go_ret2
        exact ⟨by rw [HC.out.1, HC.out.2]; rfl, H1.out⟩
    · go_wp2_with (fail)
      refine (qcheck m _ (by omega)).mono ?_
      rintro e W1 ⟨rfl, h1⟩
      have H1 := Lib.hid (gr_call B.out.1 h1)
      clear h1
      by_cases hc : chkL m.data.toList = 0
      · rw [hc]
        have HC := Lib.hid hc
        clear hc
        go_wp2_with (fail)
        go_roundw
        case rel => exact ⟨2, by decide, rfl, fun _ => B.out.2.1 (by decide), fun _ => HC.out, H1.out⟩
        case measure => simp [intOf]
      · have HC := Lib.hid (appE_two (B.out.2.1 (by decide)) hc)
        have hne : (chkL m.data.toList != 0) = true := by simpa using hc
        clear hc
        go_wp2_with (fail)
        go_ret2
        exact ⟨by rw [HC.out.1, HC.out.2]; rfl, H1.out⟩
    · have c1 := B.out.2.1 (by decide)
      have c2 := B.out.2.2 (by decide)
      have z1 := (chkL_zero c1).1
      have z2 := (chkL_zero c2).1
      rw [size_data] at z1 z2
      have e1 := empty_dec q
      have e2 := empty_dec m
      have C := Lib.hid (And.intro c1 c2)
      clear c1 c2
      by_cases hq0 : q.size = 0
      · have HC := Lib.hid (appE_empty C.out.1 C.out.2 (.inl (nil_size.2 hq0)))
        rw [decide_eq_true hq0] at e1
        have hcat : q ++ m = mkB (m.data.toList ++ q.data.toList) := by
          apply str_ext
          rw [mkB_data, nil_size.2 hq0, List.append_nil]
          simp [nil_size.2 hq0]
        have HT := Lib.hid hcat
        clear hq0 e2 hcat
        go_wp2_with (fail)
        go_ret2
        exact ⟨by rw [HC.out.1, HC.out.2, ← HT.out]; rfl, B.out.1⟩
      · rw [decide_eq_false hq0] at e1
        by_cases hm0 : m.size = 0
        · have HC := Lib.hid (appE_empty C.out.1 C.out.2 (.inr (nil_size.2 hm0)))
          rw [decide_eq_true hm0] at e2
          have hcat : q ++ m = mkB (m.data.toList ++ q.data.toList) := by
            apply str_ext
            rw [mkB_data, nil_size.2 hm0, List.nil_append]
            simp [nil_size.2 hm0]
          have HT := Lib.hid hcat
          clear hq0 hm0 hcat
          go_wp2_with (fail)
          go_ret2
          exact ⟨by rw [HC.out.1, HC.out.2, ← HT.out]; rfl, B.out.1⟩
        · rw [decide_eq_false hm0] at e2
          have hno : ¬ (q.data.toList = [] ∨ m.data.toList = []) := by
            rw [nil_size, nil_size]; omega
          by_cases hl : 128 < q.size + 1 + m.size
          · have HC := Lib.hid (appE_long C.out.1 C.out.2 hno (by rw [size_data, size_data]; exact hl))
            have hl' : (128 : Int) < (q.size : Int) + 1 + (m.size : Int) := by omega
            clear hq0 hm0 hno hl
            go_wp2_with (fail)
            go_ret2
            exact ⟨by rw [HC.out.1, HC.out.2]; rfl, B.out.1⟩
          · have HC := Lib.hid (appE_ok C.out.1 C.out.2 hno (by rw [size_data, size_data]; exact hl))
            have hl' : ¬ (128 : Int) < (q.size : Int) + 1 + (m.size : Int) := by omega
            have hcat : m ++ (⟨#[38]⟩ : ByteArray) ++ q = mkB (m.data.toList ++ 38 :: q.data.toList) := by
              apply str_ext
              rw [mkB_data]
              simp
            have HT := Lib.hid hcat
            clear hq0 hm0 hno hl hcat
            go_wp2_with (fail)
            go_ret2
            exact ⟨by rw [HC.out.1, HC.out.2, ← HT.out]; rfl, B.out.1⟩

theorem decL_small (s : ByteArray) (hs : s.size ≤ 1000000) : (decL s.data.toList).length ≤ 1000001 ∧ ∀ p ∈ decL s.data.toList, p.n.size ≤ 1000000 ∧ p.v.size ≤ 1000000 := by
  by_cases hc : decE s.data.toList = 0
  · rw [(decE_ok (decE_zero hc).1 (decE_zero hc).2).2, List.length_map]
    refine ⟨?_, ?_⟩
    · unfold pairsL
      rw [List.length_map]
      have h1 := List.length_filter_le (fun p : List UInt8 => !p.isEmpty) (splitL 38 s.data.toList)
      have h2 := splitL_len 38 s.data.toList
      rw [size_data] at h2
      omega
    · intro p hp
      obtain ⟨y, hy, rfl⟩ := List.mem_map.1 hp
      unfold pairsL at hy
      obtain ⟨x, hx, rfl⟩ := List.mem_map.1 hy
      have hl := splitL_le 38 _ x (List.mem_filter.1 hx).1
      rw [size_data] at hl
      have ro : ∀ u : ByteArray, (rOut u).size ≤ u.size := by
        intro u
        unfold rOut
        split
        · have h := scan_le u.data.toList
          rw [size_data] at h
          have e : (⟨(scan u.data.toList).1.toArray⟩ : ByteArray).size = (scan u.data.toList).1.length := by rw [← size_data]
          omega
        · exact Nat.zero_le _
      have r1 := ro (mkB (preL 61 x))
      have r2 := ro (mkB (posL 61 x))
      rw [mkB_size] at r1 r2
      show (rOut (mkB (preL 61 x))).size ≤ _ ∧ (rOut (mkB (posL 61 x))).size ≤ _
      by_cases hm : 61 ∈ x
      · have := congrArg List.length (pre_app hm).1
        rw [List.length_append, List.length_cons] at this
        omega
      · rw [(pre_none hm).1] at r1 ⊢
        rw [(pre_none hm).2] at r2 ⊢
        have r3 : (rOut (mkB [])).size ≤ 0 := r2
        omega
  · have : decL s.data.toList = [] := by unfold decL; rw [if_neg hc]
    rw [this]
    exact ⟨Nat.zero_le _, fun p hp => by cases hp⟩

set_option maxRecDepth 100000 in
set_option maxHeartbeats 2000000 in
theorem qcanonical (s : ByteArray) (hs : s.size ≤ 1000000) (w : World) (hm : MaxOk w) :
    Calls Tryd.prog 28 #[.string s] w fun e W' => e = .returned (.tuple #[.string (canS s.data.toList), .int .i64 (canE s.data.toList)]) ∧ Below w.heap.size w W' := by
  have HM := Lib.hid hm
  clear hm
  go_enter Tryd.func28, Tryd.ntmps28
  go_wp2_with (fail)
  refine (qdecoded s hs _ HM.out).mono ?_
  rintro e W1 ⟨v, rfl, hown, h1⟩
  by_cases hc : decE s.data.toList = 0
  · rw [hc]
    obtain ⟨A, c, rfl, hcl, _⟩ := own_cellsP hown
    have hv : canS s.data.toList = joinS (decL s.data.toList) ∧ canE s.data.toList = joinE (decL s.data.toList) := by
      unfold canS canE; rw [if_pos hc, if_pos hc]; exact ⟨rfl, rfl⟩
    have B := Lib.hid (And.intro h1 (And.intro hcl hv))
    clear hc hown h1 hcl hv
    go_wp2_with (fail)
    refine (qjoin _ (decL_small s hs).1 (decL_small s hs).2 A c _ B.out.2.1).mono ?_
    rintro e W2 ⟨rfl, h2⟩
    have H2 := Lib.hid (gr_call B.out.1 h2)
    clear h2
    go_wp2_with (fail)
    go_ret2
    exact ⟨by rw [B.out.2.2.1, B.out.2.2.2]; rfl, H2.out⟩
  · have hne : (decE s.data.toList != 0) = true := by simpa using hc
    have hv : canS s.data.toList = mkB [] ∧ canE s.data.toList = decE s.data.toList := by
      unfold canS canE; rw [if_neg hc, if_neg hc]; exact ⟨rfl, rfl⟩
    have B := Lib.hid (And.intro h1 hv)
    clear hc hown h1 hv
    go_wp2_with (fail)
    go_ret2
    exact ⟨by rw [B.out.2.1, B.out.2.2]; rfl, B.out.1⟩
end Go.Proofs.YtfbkbnojbbpopaaDoor
