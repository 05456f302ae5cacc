/-
  The text of a set, as a plain function; no program is in sight; no condition.
-/
import Derived.Test.YtcfdadgijnmemaaDoorSetO
namespace Go.Proofs.YtcfdadgijnmemaaDoor
set_option linter.unusedVariables false
set_option linter.unusedSimpArgs false

/-- The last of a run. -/
def runE (p : Nat → Bool) : Nat → Nat → Nat
  | 0, l => l
  | f + 1, l => if l < 255 && p (l + 1) then runE p f (l + 1) else l
def runL (p : Nat → Bool) (l : Nat) : Nat := runE p 256 l
theorem runE_fuel (p : Nat → Bool) : ∀ (f g l : Nat), 255 - l ≤ f → 255 - l ≤ g → runE p f l = runE p g l := by
  intro f
  induction f with
  | zero =>
    intro g l h1 h2
    cases g with
    | zero => rfl
    | succ g => show l = if l < 255 && p (l + 1) then _ else l
                rw [decide_eq_false (by omega : ¬ l < 255)]; rfl
  | succ f ih =>
    intro g l h1 h2
    cases g with
    | zero => show (if l < 255 && p (l + 1) then _ else l) = l
              rw [decide_eq_false (by omega : ¬ l < 255)]; rfl
    | succ g =>
      show (if l < 255 && p (l + 1) then runE p f (l + 1) else l) = (if l < 255 && p (l + 1) then runE p g (l + 1) else l)
      rw [ih g (l + 1) (by omega) (by omega)]
theorem runL_go (p : Nat → Bool) (l : Nat) (h : l < 255) (hp : p (l + 1) = true) : runL p l = runL p (l + 1) := by
  show (if l < 255 && p (l + 1) then runE p 255 (l + 1) else l) = _
  rw [hp, decide_eq_true h]
  exact runE_fuel p 255 256 (l + 1) (by omega) (by omega)
theorem runL_stop (p : Nat → Bool) (l : Nat) (h : l < 255 → p (l + 1) = false) : runL p l = l := by
  show (if l < 255 && p (l + 1) then runE p 255 (l + 1) else l) = _
  by_cases hl : l < 255
  · rw [h hl, Bool.and_false]; rfl
  · rw [decide_eq_false hl]; rfl
theorem runE_ge (p : Nat → Bool) : ∀ (f l : Nat), l ≤ 255 → l ≤ runE p f l ∧ runE p f l ≤ 255 := by
  intro f
  induction f with
  | zero => intro l h; exact ⟨Nat.le_refl _, h⟩
  | succ f ih =>
    intro l h
    show l ≤ (if l < 255 && p (l + 1) then runE p f (l + 1) else l) ∧ (if l < 255 && p (l + 1) then runE p f (l + 1) else l) ≤ 255
    split
    · rename_i hc
      simp at hc
      have := ih (l + 1) (by omega)
      omega
    · omega
theorem runL_ge (p : Nat → Bool) (l : Nat) (h : l ≤ 255) : l ≤ runL p l ∧ runL p l ≤ 255 := runE_ge p 256 l h
/-- How a run is written. -/
def piece (b l : Nat) : ByteArray := if l = b then wrS b else if l = b + 1 then wrS b ++ wrS l else wrS b ++ { data := #[45] } ++ wrS l
def txtE (p : Nat → Bool) : Nat → Nat → ByteArray
  | 0, _ => ⟨#[]⟩
  | f + 1, b => if 256 ≤ b then ⟨#[]⟩ else if p b then piece b (runL p b) ++ txtE p f (runL p b + 1) else txtE p f (b + 1)
/-- The text of what is in a set from b on. -/
def txtP (p : Nat → Bool) (b : Nat) : ByteArray := txtE p 256 b
theorem txtE_fuel (p : Nat → Bool) : ∀ (f g b : Nat), 256 - b ≤ f → 256 - b ≤ g → txtE p f b = txtE p g b := by
  intro f
  induction f with
  | zero =>
    intro g b h1 h2
    cases g with
    | zero => rfl
    | succ g => show _ = if 256 ≤ b then _ else _
                rw [if_pos (by omega)]; rfl
  | succ f ih =>
    intro g b h1 h2
    cases g with
    | zero => show (if 256 ≤ b then _ else _) = _
              rw [if_pos (by omega)]; rfl
    | succ g =>
      show (if 256 ≤ b then _ else if p b then _ else _) = (if 256 ≤ b then _ else if p b then _ else _)
      by_cases h : 256 ≤ b
      · rw [if_pos h, if_pos h]
      · have := runL_ge p b (by omega)
        rw [if_neg h, if_neg h, ih g _ (by omega) (by omega), ih g (b + 1) (by omega) (by omega)]
theorem txt_end (p : Nat → Bool) : txtP p 256 = ⟨#[]⟩ := rfl
theorem txt_no (p : Nat → Bool) (b : Nat) (h : b < 256) (hp : p b = false) : txtP p b = txtP p (b + 1) := by
  show (if 256 ≤ b then _ else if p b then _ else _) = _
  rw [if_neg (by omega), hp, if_neg (by decide)]
  exact txtE_fuel p 255 256 (b + 1) (by omega) (by omega)
theorem txt_yes (p : Nat → Bool) (b : Nat) (h : b < 256) (hp : p b = true) : txtP p b = piece b (runL p b) ++ txtP p (runL p b + 1) := by
  show (if 256 ≤ b then _ else if p b then _ else _) = _
  have := runL_ge p b (by omega)
  rw [if_neg (by omega), if_pos hp]
  rw [txtE_fuel p 255 256 _ (by omega) (by omega)]
  rfl
theorem hexS_size : ∀ n : Nat, n < 16 → (hexS n).size = 1 := by decide +kernel
theorem wrS_size (b : Nat) (hb : b < 256) : (wrS b).size ≤ 4 ∧ 1 ≤ (wrS b).size := by
  unfold wrS
  split
  · exact ⟨by show 1 ≤ 4; decide, by show 1 ≤ 1; decide⟩
  · rw [ByteArray.size_append, ByteArray.size_append, hexS_size _ (by omega), hexS_size _ (by omega)]
    exact ⟨Nat.le_refl 4, by show 1 ≤ 4; decide⟩
theorem ba_nil (o : ByteArray) : o ++ ⟨#[]⟩ = o := by
  apply ByteArray.ext; simp
end Go.Proofs.YtcfdadgijnmemaaDoor
