/-
  How a part is cut at its sign of equality: plain; no condition.
-/
import Derived.Test.YtlipjagdlpkjpaaDoorFtB
import Derived.Lib.IndexMore
namespace Go.Proofs.YtlipjagdlpkjpaaDoor
open Go.RowKit
set_option linter.unusedVariables false
set_option linter.unusedSimpArgs false

/-- Where the first sign of equality lies. -/
def eqAt (p : ByteArray) : Nat := firstN (fun x => decide (byS p x = 61)) p.size
theorem byte_61 {s : ByteArray} {i : Nat} (h : byS s i = 61) : s.data.toList.getD i 0 = 61 := UInt8.toNat_inj.1 h
theorem eq_yes {s : ByteArray} (h : eqAt s < s.size) : Lib.index s.data.toList [61] = (eqAt s : Nat) := by
  rw [Lib.index_one]
  rcases (show Lib.indexByte s.data.toList 61 = -1 ∨ ∃ o : Nat, Lib.indexByte s.data.toList 61 = o from by
    have := Lib.indexByte_ge s.data.toList 61
    rcases (show Lib.indexByte s.data.toList 61 < 0 ∨ 0 ≤ Lib.indexByte s.data.toList 61 by omega) with h | h
    · left; omega
    · right; exact ⟨_, (Int.toNat_of_nonneg h).symm⟩) with e | ⟨o, e⟩
  · have h1 := of_decide_eq_true (firstN_at (P := fun x => decide (byS s x = 61)) h)
    have h2 := Lib.indexByte_none e (eqAt s)
    rw [byS_at h] at h2
    exact absurd (congrArg some (byte_61 h1)) h2
  · obtain ⟨h1, h2⟩ := Lib.indexByte_some e
    have ho : o < s.size := by rw [← size_data]; exact (List.getElem?_eq_some_iff.1 h1).1
    rw [e]
    congr 1
    symm
    refine firstN_is (by omega) (fun x hx => ?_) (fun _ => ?_)
    · have h3 := h2 x hx
      rw [byS_at (by omega)] at h3
      exact decide_eq_false fun h4 => h3 (congrArg some (byte_61 h4))
    · rw [byS_at ho] at h1
      exact decide_eq_true (by unfold byS; rw [Option.some.inj h1]; rfl)
theorem eq_no {s : ByteArray} (h : eqAt s = s.size) : Lib.index s.data.toList [61] = -1 := by
  rw [Lib.index_one]
  have hge := Lib.indexByte_ge s.data.toList 61
  rcases (show Lib.indexByte s.data.toList 61 < 0 ∨ 0 ≤ Lib.indexByte s.data.toList 61 by omega) with h' | h'
  · omega
  · obtain ⟨h1, h2⟩ := Lib.indexByte_some (Int.toNat_of_nonneg h').symm
    have ho : (Lib.indexByte s.data.toList 61).toNat < s.size := by rw [← size_data]; exact (List.getElem?_eq_some_iff.1 h1).1
    have h3 := firstN_lt (P := fun x => decide (byS s x = 61)) (n := s.size) (x := (Lib.indexByte s.data.toList 61).toNat) (by show _ < eqAt s; omega)
    rw [byS_at ho] at h1
    exact absurd (by unfold byS; rw [Option.some.inj h1]; rfl) (of_decide_eq_false h3)
/-- What Cut returns. -/
def cutA (p : ByteArray) : ByteArray := ⟨(Lib.cut p.data.toList [61]).1.toArray⟩
def cutB (p : ByteArray) : ByteArray := ⟨(Lib.cut p.data.toList [61]).2.1.toArray⟩
def cutI (p : ByteArray) : Bool := (Lib.cut p.data.toList [61]).2.2
theorem cut_yes {p : ByteArray} (h : eqAt p < p.size) : cutA p = p.extract 0 (eqAt p) ∧ cutB p = p.extract (eqAt p + 1) p.size ∧ cutI p = true := by
  unfold cutA cutB cutI Lib.cut
  rw [eq_yes h, if_pos (by omega)]
  refine ⟨?_, ?_, rfl⟩
  · apply str_ext
    rw [ext_take]
    simp
  · apply str_ext
    rw [ext_end]
    simp
theorem cut_no {p : ByteArray} (h : eqAt p = p.size) : cutA p = p ∧ cutI p = false := by
  unfold cutA cutI Lib.cut
  rw [eq_no h, if_neg (by omega)]
  exact ⟨by apply str_ext; simp, rfl⟩
theorem one_is {s : ByteArray} {c : Nat} (hc : c < 256) : s = ⟨#[UInt8.ofNat c]⟩ ↔ s.size = 1 ∧ byS s 0 = c := by
  have hcn : (UInt8.ofNat c).toNat = c := by simp; omega
  constructor
  · rintro rfl
    exact ⟨rfl, hcn⟩
  · rintro ⟨h1, h2⟩
    refine str_eq (by rw [h1]; rfl) fun i hi => ?_
    obtain rfl : i = 0 := by omega
    rw [h2]; exact hcn.symm
/-- A letter other than '=' with '=' behind it: the cut. -/
theorem cut_two {p : ByteArray} {c : Nat} (hc : c < 256) (hc61 : c ≠ 61) : (2 ≤ p.size ∧ byS p 0 = c ∧ byS p 1 = 61) ↔ (cutI p = true ∧ cutA p = ⟨#[UInt8.ofNat c]⟩) := by
  constructor
  · rintro ⟨h2, h0, h1⟩
    have e : eqAt p = 1 := firstN_is (by omega) (fun x hx => by
      obtain rfl : x = 0 := by omega
      exact decide_eq_false (by omega)) (fun _ => decide_eq_true h1)
    obtain ⟨k1, k2, k3⟩ := cut_yes (p := p) (by omega)
    refine ⟨k3, ?_⟩
    rw [k1, e]
    exact (one_is hc).2 ⟨by rw [ext_len (by omega)], by rw [byS_ext (by omega) (by omega)]; exact h0⟩
  · rintro ⟨h1, h2⟩
    have hle : eqAt p ≤ p.size := firstN_le _ _
    by_cases e : eqAt p = p.size
    · rw [(cut_no e).2] at h1; cases h1
    · have hlt : eqAt p < p.size := by omega
      obtain ⟨k1, k2, k3⟩ := cut_yes hlt
      rw [k1] at h2
      obtain ⟨j1, j2⟩ := (one_is hc).1 h2
      rw [ext_len (by omega)] at j1
      have e1 : eqAt p = 1 := by omega
      rw [byS_ext (by omega) (by omega)] at j2
      have h3 := of_decide_eq_true (firstN_at (P := fun x => decide (byS p x = 61)) hlt)
      change byS p (eqAt p) = 61 at h3
      rw [e1] at h3
      exact ⟨by omega, j2, h3⟩
theorem cut_rest {p : ByteArray} (h : 2 ≤ p.size) (h0 : byS p 0 ≠ 61) (h1 : byS p 1 = 61) : cutB p = p.extract 2 p.size := by
  have e : eqAt p = 1 := firstN_is (by omega) (fun x hx => by
    obtain rfl : x = 0 := by omega
    exact decide_eq_false h0) (fun _ => decide_eq_true h1)
  rw [(cut_yes (p := p) (by omega)).2.1, e]
theorem isS_cut (p : ByteArray) : isS p = true ↔ cutI p = true ∧ cutA p = ⟨#[83]⟩ := by
  rw [show (⟨#[83]⟩ : ByteArray) = ⟨#[UInt8.ofNat 83]⟩ from rfl, ← cut_two (c := 83) (by decide) (by decide)]
  unfold isS
  simp
theorem isR_cut (p : ByteArray) : isR p = true ↔ cutI p = true ∧ cutA p = ⟨#[82]⟩ := by
  rw [show (⟨#[82]⟩ : ByteArray) = ⟨#[UInt8.ofNat 82]⟩ from rfl, ← cut_two (c := 82) (by decide) (by decide)]
  unfold isR
  simp
theorem isS_rest {p : ByteArray} (h : isS p = true) : cutB p = p.extract 2 p.size := by
  unfold isS at h
  simp at h
  exact cut_rest h.1 (by omega) h.2.2
theorem isR_rest {p : ByteArray} (h : isR p = true) : cutB p = p.extract 2 p.size := by
  unfold isR at h
  simp at h
  exact cut_rest h.1 (by omega) h.2.2
/-- A builder with a flag more. -/
theorem putC_set {s : Put} {k : Nat} (hk : k < 8) : (putC s).setIfInBounds k (.bool true) = putC ⟨set8 s.f k, s.sk, s.rd⟩ := by
  have : k = 0 ∨ k = 1 ∨ k = 2 ∨ k = 3 ∨ k = 4 ∨ k = 5 ∨ k = 6 ∨ k = 7 := by omega
  rcases this with e | e | e | e | e | e | e | e <;> rw [e] <;> rfl
theorem putC_get {s : Put} {k : Nat} (hk : k < 8) : (putC s)[k]? = some (.bool (get8 s.f k)) := by
  have : k = 0 ∨ k = 1 ∨ k = 2 ∨ k = 3 ∨ k = 4 ∨ k = 5 ∨ k = 6 ∨ k = 7 := by omega
  rcases this with e | e | e | e | e | e | e | e <;> rw [e] <;> rfl
end Go.Proofs.YtlipjagdlpkjpaaDoor
