/-
  The parts of flags' texts, plain; no program is in sight; no condition.
-/
import Derived.Test.YtlipjagdlpkjpaaDoorFtFn
import Derived.Lib.Join
import Derived.Lib.IndexMore
import Derived.Lib.IndexLaws
namespace Go.Proofs.YtlipjagdlpkjpaaDoor
set_option linter.unusedVariables false
set_option linter.unusedSimpArgs false

/-- Whether a part has a sign of equality. -/
def isEq (x : ByteArray) : Bool := Lib.contains x.data.toList [61]
def ad2 (f : Flg) : Nat → Bool
  | 0 => f.app
  | 1 => f.disc
  | _ => false
def letAD (k : Nat) : ByteArray := ⟨#[([65, 68] : List UInt8).getD k 0]⟩
/-- The letters of Append and Discard among the first k. -/
def adL (f : Flg) : Nat → List ByteArray
  | 0 => []
  | k + 1 => adL f k ++ (if ad2 f k then [letAD k] else [])
/-- All parts, in order. -/
def partsL (f : Flg) : List ByteArray := wayL f 6 ++ adL f 2 ++ (skipL f ++ redL f)
def joinT (l : List ByteArray) : ByteArray := ⟨(Lib.join (l.map (·.data.toList)) [44]).toArray⟩
/-- The text of parts. -/
def textL (l : List ByteArray) : ByteArray := if l = [] then ⟨#[]⟩ else ⟨#[91]⟩ ++ joinT l ++ ⟨#[93]⟩
def textF (f : Flg) : ByteArray := textL (partsL f)
theorem isEq_letter : ∀ k, k < 6 → isEq ⟨#[([76, 78, 67, 69, 70, 71] : List UInt8).getD k 0]⟩ = false := by decide +kernel
theorem isEq_at (a : UInt8) (r : List UInt8) (h : a ≠ 61) : isEq ⟨#[a, 61] ++ r.toArray⟩ = true := by
  unfold isEq Lib.contains
  have e : (⟨#[a, 61] ++ r.toArray⟩ : ByteArray).data.toList = a :: 61 :: r := by simp
  rw [e, Lib.index_one]
  unfold Lib.indexByte
  rw [if_neg (by simpa using h)]
  unfold Lib.indexByte
  simp
theorem isEq_skip (r : List UInt8) : isEq (⟨#[83, 61]⟩ ++ ⟨r.toArray⟩) = true := by
  have : (⟨#[83, 61]⟩ ++ ⟨r.toArray⟩ : ByteArray) = ⟨#[83, 61] ++ r.toArray⟩ := by apply str_ext; simp
  rw [this]
  exact isEq_at 83 r (by decide)
theorem isEq_red (r : List UInt8) : isEq (⟨#[82, 61]⟩ ++ ⟨r.toArray⟩) = true := by
  have : (⟨#[82, 61]⟩ ++ ⟨r.toArray⟩ : ByteArray) = ⟨#[82, 61] ++ r.toArray⟩ := by apply str_ext; simp
  rw [this]
  exact isEq_at 82 r (by decide)
theorem wayL_no (f : Flg) : ∀ k, k ≤ 6 → ∀ x ∈ wayL f k, isEq x = false := by
  intro k
  induction k with
  | zero => intro _ x hx; cases hx
  | succ k ih =>
    intro hk x hx
    unfold wayL at hx
    rcases List.mem_append.1 hx with h | h
    · exact ih (by omega) x h
    · by_cases hw : way6 f k = true
      · rw [if_pos hw] at h
        obtain rfl := List.mem_singleton.1 h
        exact isEq_letter k (by omega)
      · rw [if_neg hw] at h; cases h
theorem behL_yes (f : Flg) : ∀ x ∈ skipL f ++ redL f, isEq x = true := by
  intro x hx
  unfold skipL redL at hx
  rcases List.mem_append.1 hx with h | h
  · split at h
    · cases h
    · obtain rfl := List.mem_singleton.1 h
      exact isEq_skip _
  · split at h
    · cases h
    · obtain rfl := List.mem_singleton.1 h
      exact isEq_red _
theorem ways_behind (f : Flg) : (waysL f).filter isEq = skipL f ++ redL f := by
  unfold waysL
  rw [List.append_assoc, List.filter_append, List.filter_eq_nil_iff.2 (fun x hx => by rw [wayL_no f 6 (by decide) x hx]; decide), List.nil_append, List.filter_eq_self.2 (behL_yes f)]
theorem ways_before (f : Flg) : (waysL f).filter (fun x => !isEq x) = wayL f 6 := by
  unfold waysL
  rw [List.append_assoc, List.filter_append, List.filter_eq_self.2 (fun x hx => by rw [wayL_no f 6 (by decide) x hx]; rfl), List.filter_eq_nil_iff.2 (fun x hx => by rw [behL_yes f x hx]; decide), List.append_nil]
theorem filt_yes {p : ByteArray → Bool} {l : List ByteArray} {k : Nat} {x : ByteArray} (h : l[k]? = some x) (hp : p x = true) : (l.take (k + 1)).filter p = (l.take k).filter p ++ [x] := by
  rw [List.take_add_one, h]; simp [hp]
theorem filt_no {p : ByteArray → Bool} {l : List ByteArray} {k : Nat} {x : ByteArray} (h : l[k]? = some x) (hp : p x = false) : (l.take (k + 1)).filter p = (l.take k).filter p := by
  rw [List.take_add_one, h]; simp [hp]
/-- Sizes. -/
theorem wayL_size (f : Flg) : ∀ k, ∀ x ∈ wayL f k, x.size = 1 := by
  intro k
  induction k with
  | zero => intro x hx; cases hx
  | succ k ih =>
    intro x hx
    unfold wayL at hx
    rcases List.mem_append.1 hx with h | h
    · exact ih x h
    · split at h
      · obtain rfl := List.mem_singleton.1 h; rfl
      · cases h
theorem adL_size (f : Flg) : ∀ k, ∀ x ∈ adL f k, x.size = 1 := by
  intro k
  induction k with
  | zero => intro x hx; cases hx
  | succ k ih =>
    intro x hx
    unfold adL at hx
    rcases List.mem_append.1 hx with h | h
    · exact ih x h
    · split at h
      · obtain rfl := List.mem_singleton.1 h; rfl
      · cases h
theorem adL_len (f : Flg) : ∀ k, (adL f k).length ≤ k := by
  intro k
  induction k with
  | zero => exact Nat.le_refl _
  | succ k ih =>
    unfold adL
    rw [List.length_append]
    split <;> simp <;> omega
theorem lens_le {n : Nat} : ∀ (l : List ByteArray), (∀ x ∈ l, x.size ≤ n) → Lib.lens (l.map (·.data.toList)) ≤ n * l.length := by
  intro l
  induction l with
  | nil => intro _; exact Nat.zero_le _
  | cons x r ih =>
    intro h
    have h1 := ih (fun y hy => h y (by simp [hy]))
    have h2 := h x (by simp)
    rw [← size_data] at h2
    unfold Lib.lens at h1 ⊢
    rw [List.map_cons, List.map_cons, List.sum_cons, List.length_cons, Nat.mul_succ]
    omega
theorem join_le {n : Nat} (l : List ByteArray) (h : ∀ x ∈ l, x.size ≤ n) : (Lib.join (l.map (·.data.toList)) [44]).length ≤ (n + 1) * l.length := by
  cases l with
  | nil => exact Nat.zero_le _
  | cons x r =>
    rw [List.map_cons, Lib.join_cons, List.length_append, Lib.joinTail_length]
    have h1 := lens_le r (fun y hy => h y (by simp [hy]))
    have h2 := h x (by simp)
    rw [← size_data] at h2
    rw [List.length_map]
    simp only [List.length_cons, List.length_nil]
    have e : (n + 1) * (r.length + 1) = n * r.length + r.length + n + 1 := by rw [Nat.mul_succ, Nat.add_mul]; omega
    rw [e]
    omega
/-- The text as it grows, part by part. -/
def growT (l : List ByteArray) : Nat → ByteArray
  | 0 => ⟨#[91]⟩
  | k + 1 => growT l k ++ (if k = 0 then ⟨#[]⟩ else ⟨#[44]⟩) ++ l.getD k ⟨#[]⟩
theorem grow_data (x : ByteArray) (r : List ByteArray) : ∀ k, k ≤ r.length → (growT (x :: r) (k + 1)).data.toList = 91 :: (x.data.toList ++ Lib.joinTail [44] ((r.map (·.data.toList)).take k)) := by
  intro k
  induction k with
  | zero =>
    intro _
    unfold growT growT
    simp [Lib.joinTail]
  | succ k ih =>
    intro hk
    have h := ih (by omega)
    conv => lhs; unfold growT
    have hx : (x :: r).getD (k + 1) ⟨#[]⟩ = r[k]'(by omega) := by
      rw [List.getD_eq_getElem?_getD, List.getElem?_cons_succ, List.getElem?_eq_getElem (by omega)]; rfl
    rw [if_neg (by omega), hx]
    rw [Lib.joinTail_take_succ [44] (r.map (·.data.toList)) k (r[k]'(by omega)).data.toList (by rw [List.getElem?_map, List.getElem?_eq_getElem (by omega)]; rfl)]
    rw [ByteArray.data_append, ByteArray.data_append, Array.toList_append, Array.toList_append, h]
    simp
theorem grow_all (l : List ByteArray) (h : l ≠ []) : growT l l.length ++ ⟨#[93]⟩ = textL l := by
  cases l with
  | nil => exact absurd rfl h
  | cons x r =>
    unfold textL
    rw [if_neg (by simp)]
    apply str_ext
    rw [ByteArray.data_append, Array.toList_append, List.length_cons, grow_data x r r.length (Nat.le_refl _), ByteArray.data_append, ByteArray.data_append, Array.toList_append, Array.toList_append]
    unfold joinT
    rw [List.map_cons, Lib.join_cons, List.take_of_length_le (by simp)]
    simp
end Go.Proofs.YtlipjagdlpkjpaaDoor
