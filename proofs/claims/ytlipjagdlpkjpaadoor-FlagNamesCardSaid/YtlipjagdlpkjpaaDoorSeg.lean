/-
  A string cut at one byte, as stretches found one byte after the other; strings.Split's pieces are these; no program is in sight; no condition.
-/
import Derived.Test.YtlipjagdlpkjpaaDoorByt
import Derived.Lib.SplitLaws
import Derived.Lib.CountLaws
import Derived.Lib.IndexLaws
namespace Go.Proofs.YtlipjagdlpkjpaaDoor
set_option linter.unusedVariables false
set_option linter.unusedSimpArgs false

/-- The stretches between bytes c: a is where the stretch began, i where the search stands, n bytes are left. -/
def segs (G : Nat → Nat) (c : Nat) : Nat → Nat → Nat → List (Nat × Nat)
  | a, i, 0 => [(a, i)]
  | a, i, n + 1 => if G i = c then (a, i) :: segs G c (i + 1) (i + 1) n else segs G c a (i + 1) n
theorem segs_hit {G : Nat → Nat} {c a i n : Nat} (h : G i = c) : segs G c a i (n + 1) = (a, i) :: segs G c (i + 1) (i + 1) n := by
  conv => lhs; unfold segs
  rw [if_pos h]
theorem segs_miss {G : Nat → Nat} {c a i n : Nat} (h : G i ≠ c) : segs G c a i (n + 1) = segs G c a (i + 1) n := by
  conv => lhs; unfold segs
  rw [if_neg h]
theorem segs_skip {G : Nat → Nat} {c a n : Nat} : ∀ (j i : Nat), (∀ x, x < j → G (i + x) ≠ c) → segs G c a i (j + n) = segs G c a (i + j) n := by
  intro j
  induction j with
  | zero => intro i _; rw [Nat.zero_add, Nat.add_zero]
  | succ j ih =>
    intro i h
    rw [show j + 1 + n = (j + n) + 1 by omega, segs_miss (by have := h 0 (by omega); rwa [Nat.add_zero] at this), ih (i + 1) (fun x hx => by have := h (x + 1) (by omega); rwa [show i + (x + 1) = i + 1 + x by omega] at this), show i + 1 + j = i + (j + 1) by omega]
theorem segs_ne (G : Nat → Nat) (c : Nat) : ∀ (n a i : Nat), segs G c a i n ≠ [] := by
  intro n
  induction n with
  | zero => intro a i; unfold segs; simp
  | succ n ih =>
    intro a i
    by_cases h : G i = c
    · rw [segs_hit h]; simp
    · rw [segs_miss h]; exact ih _ _
/-- A stretch lies where it should. -/
theorem segs_in {G : Nat → Nat} {c : Nat} : ∀ (n a i : Nat), a ≤ i → ∀ p ∈ segs G c a i n, a ≤ p.1 ∧ p.1 ≤ p.2 ∧ p.2 ≤ i + n := by
  intro n
  induction n with
  | zero =>
    intro a i h p hp
    unfold segs at hp
    obtain rfl : p = (a, i) := by simpa using hp
    exact ⟨Nat.le_refl _, h, by simp⟩
  | succ n ih =>
    intro a i h p hp
    by_cases he : G i = c
    · rw [segs_hit he] at hp
      rcases List.mem_cons.1 hp with rfl | hp
      · exact ⟨Nat.le_refl _, h, by show i ≤ i + (n + 1); omega⟩
      · have := ih (i + 1) (i + 1) (Nat.le_refl _) p hp
        omega
    · rw [segs_miss he] at hp
      have := ih a (i + 1) (by omega) p hp
      omega
theorem byte_eq {t : ByteArray} {c : UInt8} {x : Nat} (hx : x < t.size) : t.data.toList[x]? = some c ↔ byS t x = c.toNat := by
  rw [byS_at hx]
  unfold byS
  constructor
  · intro h; rw [Option.some.inj h]
  · intro h; rw [UInt8.toNat_inj.1 h]
theorem indexB_one (t : ByteArray) (c : UInt8) :
    (Lib.indexB t ⟨#[c]⟩ = -1 ∧ ∀ x, x < t.size → byS t x ≠ c.toNat) ∨ ∃ o : Nat, Lib.indexB t ⟨#[c]⟩ = o ∧ o < t.size ∧ byS t o = c.toNat ∧ ∀ x, x < o → byS t x ≠ c.toNat := by
  have e : Lib.indexB t ⟨#[c]⟩ = Lib.indexByte t.data.toList c := Lib.index_one t.data.toList c
  have hge := Lib.indexByte_ge t.data.toList c
  rw [e]
  rcases (show Lib.indexByte t.data.toList c = -1 ∨ 0 ≤ Lib.indexByte t.data.toList c by omega) with h | h
  · refine .inl ⟨h, fun x hx hb => Lib.indexByte_none h x ((byte_eq hx).2 hb)⟩
  · obtain ⟨h1, h2⟩ := Lib.indexByte_some (Int.toNat_of_nonneg h).symm
    have ho : (Lib.indexByte t.data.toList c).toNat < t.size := by rw [← size_data]; exact (List.getElem?_eq_some_iff.1 h1).1
    exact .inr ⟨_, (Int.toNat_of_nonneg h).symm, ho, (byte_eq ho).1 h1, fun x hx hb => h2 x hx ((byte_eq (by omega)).2 hb)⟩
/-- strings.Split of a part of a string at one byte. -/
theorem split_segs (s : ByteArray) (c : UInt8) : ∀ (m a b : Nat), b - a ≤ m → a ≤ b → b ≤ s.size →
    Lib.splitB ⟨#[c]⟩ 0 (Lib.countB (s.extract a b) ⟨#[c]⟩) (s.extract a b) = (segs (byS s) c.toNat a a (b - a)).map (fun p => s.extract p.1 p.2) := by
  intro m
  induction m with
  | zero =>
    intro a b hm hab hb
    obtain rfl : a = b := by omega
    rcases indexB_one (s.extract a a) c with ⟨h, _⟩ | ⟨o, _, ho, _⟩
    · rw [Lib.splitB_miss _ _ _ _ h, Nat.sub_self]
      rfl
    · rw [ext_len hb] at ho; omega
  | succ m ih =>
    intro a b hm hab hb
    have hl := ext_len (s := s) (a := a) (b := b) hb
    rcases indexB_one (s.extract a b) c with ⟨h, h2⟩ | ⟨o, h, ho, ha, h2⟩
    · rw [Lib.splitB_miss _ _ _ _ h]
      have := segs_skip (G := byS s) (c := c.toNat) (a := a) (n := 0) (b - a) a (fun x hx => by
        have := h2 x (by omega)
        rwa [byS_ext (by omega) hb] at this)
      rw [Nat.add_zero] at this
      rw [this, show a + (b - a) = b by omega]
      rfl
    · rw [hl] at ho
      rw [Lib.countB_hit _ ⟨#[c]⟩ o (by show 1 ≤ 1; omega) h, Nat.add_comm 1, Lib.splitB_hit _ _ _ _ o h, hl, show (⟨#[c]⟩ : ByteArray).size = 1 from rfl, Nat.add_zero, ext_ext (by omega), ext_ext (by omega), show a + (b - a) = b by omega]
      have hs := segs_skip (G := byS s) (c := c.toNat) (a := a) (n := b - a - o) o a (fun x hx => by
        have := h2 x hx
        rwa [byS_ext (by omega) hb] at this)
      rw [show o + (b - a - o) = b - a by omega, show b - a - o = (b - (a + o + 1)) + 1 by omega] at hs
      rw [byS_ext (by omega) hb] at ha
      rw [hs, segs_hit ha, List.map_cons, ← ih (a + o + 1) b (by omega) (by omega) hb]
      simp only [Nat.add_zero, Nat.add_assoc]
end Go.Proofs.YtlipjagdlpkjpaaDoor
