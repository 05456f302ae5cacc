/-
  Which, of row and of its reference, walked; a list of names that came in; condition: how many names there are.
-/
import Derived.Test.YtpicenopiigfpaaDoorRxE
import Derived.Test.YtpicenopiigfpaaDoorShelf
import Derived.Lib.SlicesS
namespace Go.Proofs.YtpicenopiigfpaaDoor
open Go.ChangeShapes Go.WideShapes Go.ChangeAt Go.RowKit Go.Deep
set_option linter.unusedVariables false
set_option linter.unusedSimpArgs false

section
variable {H : Type} {enc : TypeId × Value → H} {w : World} {base b0 : Nat} {spare : Nat → Bool} {held : Bool}
set_option maxRecDepth 100000 in
theorem open_texts {v : Value} {d : DataW H} {ps : List MemPlace} (hval : Value.okWide Tryd.prog w .any b0 31 v) (hd : DataW.Trod enc Tryd.prog w base spare held 31 v d ps) :
    ∃ ts : List ByteArray, TextsIn w v ts := by
  obtain ⟨A, len, cap, G, rfl, hA, hc⟩ := open_cells (m := 1) (by decide) StrW (fun d _ => Value.string d.val) Tryd.underlying31 (by kernel_rfl) (fun cs' n y hl h => by
    obtain ⟨s, hcs, _, hs⟩ := DataW.trod_string Tryd.underlying9 h
    refine ⟨⟨s, by unfold maxLen at hs; omega⟩, fun j hj => ?_⟩
    obtain rfl : j = 0 := by omega
    rw [hcs]; rfl) hval hd
  have hlen : ((List.range len).map fun i => (G i).val).length = len := by simp
  refine ⟨(List.range len).map fun i => (G i).val, A, cap, by rw [hlen], by rw [hlen]; exact hA, ?_⟩
  rw [hlen]
  intro hn
  obtain ⟨a, o, e, hlt, h⟩ := hc hn
  refine ⟨a, o, e, hlt, fun i j hi hj => ?_⟩
  rw [h i j hi hj]
  unfold txAt
  have : ((List.range len).map fun i => (G i).val)[i]? = some (G i).val := by simp [hi]
  rw [this]
end
/-- The place of a name, or that there is none. -/
def whI (ts : List ByteArray) (s : ByteArray) : Int × Int := if Lib.idxOfS ts s < 0 then (0, 11) else (Lib.idxOfS ts s, 0)
def whV (r : Int × Int) : Value := .tuple #[.int .i64 r.1, .int .i64 r.2]

set_option maxRecDepth 100000 in
set_option maxHeartbeats 2000000 in
theorem wWhich (ts : List ByteArray) (s : ByteArray) (v : Value) (hl : ts.length ≤ 1000000) (w : World) (hv : TextsIn w v ts) :
    Calls Tryd.prog 25 #[.string s, v] w fun e w' => e = .returned (whV (whI ts s)) ∧ w' = w := by
  have hx : Calls Tryd.prog 43 #[v, .string s] w fun e w' => e = .returned (.int .i64 (Lib.idxOfS ts s)) ∧ w' = w := by
    obtain ⟨A, c, rfl, hA, hc⟩ := hv
    by_cases h0 : ts.length = 0
    · have : ts = [] := List.length_eq_zero_iff.1 h0
      subst this
      exact Tryd.slices_Index_string_empty A c s w
    · obtain ⟨b, off, rfl, hlt, hcl⟩ := hc (by omega)
      have := Tryd.slices_Index_string b off ts.length c ts s w (Nat.le_refl _) (by omega) (fun j hj => by
        have h1 := hcl j 0 hj (by decide)
        rw [Nat.mul_one, Nat.add_zero] at h1
        rw [h1]
        unfold txAt
        rw [List.getElem?_eq_getElem hj]
        simp [List.getD, hj])
      rw [List.take_of_length_le (Nat.le_refl _)] at this
      exact this
  obtain ⟨i, hi⟩ : ∃ i, i = Lib.idxOfS ts s := ⟨_, rfl⟩
  rw [← hi] at hx
  obtain ⟨A, c, rfl, _⟩ := hv
  by_cases hn : i < 0
  · have hr : whI ts s = (0, 11) := by unfold whI; rw [← hi, if_pos hn]
    have H := Lib.hid (And.intro hx hr)
    clear hx hr hi
    go_enter Tryd.func25, Tryd.ntmps25
    go_wp2_with (fail)
    refine H.out.1.mono ?_
    rintro e W1 ⟨rfl, rfl⟩
    go_wp2_with (fail)
    go_ret2
    exact ⟨by rw [H.out.2]; rfl, rfl⟩
  · have hr : whI ts s = (i, 0) := by unfold whI; rw [← hi, if_neg hn]
    have H := Lib.hid (And.intro hx hr)
    clear hx hr hi
    go_enter Tryd.func25, Tryd.ntmps25
    go_wp2_with (fail)
    refine H.out.1.mono ?_
    rintro e W1 ⟨rfl, rfl⟩
    go_wp2_with (fail)
    go_ret2
    exact ⟨by rw [H.out.2]; rfl, rfl⟩

set_option maxRecDepth 100000 in
set_option maxHeartbeats 2000000 in
theorem rWhich (ts : List ByteArray) (s : ByteArray) (v : Value) (hl : ts.length ≤ 1000000) (w : World) (hv : TextsIn w v ts) :
    Calls Tryd.prog 26 #[.string s, v] w fun e w' => e = .returned (whV (whI ts s)) ∧ w' = w := by
  obtain ⟨A, c, rfl, _, hA⟩ := hv
  obtain ⟨n, hn⟩ : ∃ n, n = ts.length := ⟨_, rfl⟩
  have HA := Lib.hid (And.intro hA hn)
  rw [← hn] at hl ⊢
  clear hA hn
  go_enter Tryd.func26, Tryd.ntmps26
  go_wp2_with (fail)
  go_loopw [6] (fun iv wr => (∃ k : Nat, k ≤ n ∧ iv = .int .i64 (k : Int) ∧ ∀ j, j < k → ts.getD j ByteArray.empty ≠ s) ∧ wr = w) (fun iv _ => n - (intOf iv).toNat)
  case atStart => exact ⟨⟨0, Nat.zero_le _, rfl, fun j hj => absurd hj (by omega)⟩, rfl⟩
  case round =>
    obtain ⟨⟨k, hk, rfl, hno⟩, rfl⟩ := hrel
    by_cases hlt : k < n
    · have hki : (k : Int) < n := by omega
      obtain ⟨t, ht⟩ : ∃ t, ts[k]? = some t := ⟨_, List.getElem?_eq_getElem (by rw [← HA.out.2]; exact hlt)⟩
      obtain ⟨ab, ao, rfl, hab, c0⟩ := cells_tx HA.out.1 ht
      have hgd : ts.getD k ByteArray.empty = t := by rw [List.getD_eq_getElem?_getD, ht]; rfl
      by_cases he : t = s
      · subst he
        have hi : Lib.idxOfS ts t = (k : Int) := by
          have := Lib.idxOfS_hit ts n k t hlt (by rw [← HA.out.2]; exact Nat.le_refl _) hgd hno
          rw [List.take_of_length_le (by rw [← HA.out.2]; exact Nat.le_refl _)] at this
          exact this
        have hr : whI ts t = ((k : Int), 0) := by unfold whI; rw [hi, if_neg (by omega)]
        have H := Lib.hid hr
        clear hr hi hno hgd ht
        go_wp2_with (fail)
        go_ret2
        exact ⟨by rw [H.out]; rfl, rfl⟩
      · have hne : (t.toList == s.toList) = false := by rw [str_beq, decide_eq_false he]
        have H := Lib.hid (And.intro hno (And.intro hgd he))
        clear hno hgd ht he
        go_wp2_with (fail)
        go_roundw
        case rel =>
          refine ⟨⟨k + 1, by omega, rfl, fun j hj => ?_⟩, trivial⟩
          by_cases e : j = k
          · subst e; rw [H.out.2.1]; exact H.out.2.2
          · exact H.out.1 j (by omega)
        case measure => simp [intOf]; omega
    · have hki : ¬ (k : Int) < n := by omega
      have hi : Lib.idxOfS ts s = -1 := by
        have := Lib.idxOfS_miss ts n s (fun j hj => hno j (by omega))
        rw [List.take_of_length_le (by rw [← HA.out.2]; exact Nat.le_refl _)] at this
        exact this
      have hr : whI ts s = (0, 11) := by unfold whI; rw [hi, if_pos (by decide)]
      have H := Lib.hid hr
      clear hr hi hno
      go_wp2_with (fail)
      go_ret2
      exact ⟨by rw [H.out]; rfl, rfl⟩
end Go.Proofs.YtpicenopiigfpaaDoor
