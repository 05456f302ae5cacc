/-
  Start, Next and Run of passes, each in one wording for all inputs; condition: the two tables lie as they are laid.
-/
import Derived.Test.YtjkmkpehnnkpiaaDoorPasV
namespace Go.Proofs.YtjkmkpehnnkpiaaDoor
open Go.RowKit Go.Joins Go.Shelf
set_option linter.unusedVariables false
set_option linter.unusedSimpArgs false

/-- The values of Next's pass: how many flags, the rule, whether all rounds are over. -/
def nxN (F : Nat → Flg) (n : Nat) (t : Int) (e : Bool) : Nat := if nextE F n t e = 0 then n else 0
def nxT (F : Nat → Flg) (n : Nat) (t : Int) (e h : Bool) : Int := if nextE F n t e = 0 then (nextP F n t.toNat h : Int) else 0
def nxE (F : Nat → Flg) (n : Nat) (t : Int) (e h : Bool) : Bool := if nextE F n t e = 0 then overP F t.toNat h else false
/-- A pass's value in a world. -/
def PassV (F : Nat → Flg) (n : Nat) (t : Int) (e : Bool) (v : Value) (W : World) : Prop := ∃ B d, v = .agg #[.slice B n d, .int .i64 t, .bool e] ∧ Cells W B 10 n (flgAt F) ∧ ArgOk B n d
theorem PassV.below {F : Nat → Flg} {n : Nat} {t : Int} {e : Bool} {v : Value} {W W' : World} (h : PassV F n t e v W) (hb : Below W.heap.size W W') : PassV F n t e v W' := by
  obtain ⟨B, d, h1, h2, h3⟩ := h
  exact ⟨B, d, h1, h2.below hb, h3⟩
theorem passV_none (F : Nat → Flg) (W : World) : PassV F 0 0 false (.agg #[.slice none 0 0, .int .i64 0, .bool false]) W := ⟨none, 0, rfl, fun h => absurd h (by decide), fun _ => ⟨rfl, rfl⟩⟩

theorem pnextU (F : Nat → Flg) (hF : SkipOk F) (A : Option Addr) (n c : Nat) (t : Int) (en h : Bool) (ht : -9223372036854775808 ≤ t ∧ t ≤ 9223372036854775807) (hn : n ≤ 1000000) (w : World) (hT : Tabs w) (hO : ArgOk A n c) (hA : Cells w A 10 n (flgAt F)) :
    Calls Tryd.prog 22 #[.agg #[.slice A n c, .int .i64 t, .bool en], .bool h] w fun e W' => ∃ v, e = .returned (.tuple #[v, .int .i64 (nextE F n t en)]) ∧ PassV F (nxN F n t en) (nxT F n t en h) (nxE F n t en h) v W' ∧ Below w.heap.size w W' := by
  by_cases he : nextE F n t en = 0
  · obtain ⟨k, rfl, hk, rfl, hp⟩ := next_zero he
    refine (pnext_ok F hF A n c k h hn hk w hT hO hA hp).mono fun e W' ⟨B, d, h1, h2, h3, h4⟩ => ⟨.agg #[.slice B n d, .int .i64 (nextP F n k h : Int), .bool (overP F k h)], by rw [h1, he], ⟨B, d, ?_, ?_, ?_⟩, h4⟩
    · unfold nxN nxT nxE; rw [if_pos he, if_pos he, if_pos he]; rfl
    · unfold nxN; rw [if_pos he]; exact h2
    · unfold nxN; rw [if_pos he]; exact h3
  · refine (pnext_bad F hF A n c t en h ht hn w hT hA he).mono fun e W' ⟨h1, h4⟩ => ⟨_, h1, ?_, h4⟩
    unfold nxN nxT nxE; rw [if_neg he, if_neg he, if_neg he]
    exact passV_none F W'
theorem rnextU (F : Nat → Flg) (hF : SkipOk F) (A : Option Addr) (n c : Nat) (t : Int) (en h : Bool) (ht : -9223372036854775808 ≤ t ∧ t ≤ 9223372036854775807) (hn : n ≤ 1000000) (w : World) (hO : ArgOk A n c) (hA : Cells w A 10 n (flgAt F)) :
    Calls Tryd.prog 23 #[.agg #[.slice A n c, .int .i64 t, .bool en], .bool h] w fun e W' => ∃ v, e = .returned (.tuple #[v, .int .i64 (nextE F n t en)]) ∧ PassV F (nxN F n t en) (nxT F n t en h) (nxE F n t en h) v W' ∧ Below w.heap.size w W' := by
  by_cases he : nextE F n t en = 0
  · obtain ⟨k, rfl, hk, rfl, hp⟩ := next_zero he
    refine (rnext_ok F hF A n c k h hn hk w hO hA hp).mono fun e W' ⟨B, d, h1, h2, h3, h4⟩ => ⟨.agg #[.slice B n d, .int .i64 (nextP F n k h : Int), .bool (overP F k h)], by rw [h1, he], ⟨B, d, ?_, ?_, ?_⟩, h4⟩
    · unfold nxN nxT nxE; rw [if_pos he, if_pos he, if_pos he]; rfl
    · unfold nxN; rw [if_pos he]; exact h2
    · unfold nxN; rw [if_pos he]; exact h3
  · refine (rnext_bad F hF A n c t en h ht hn w hA he).mono fun e W' ⟨h1, h4⟩ => ⟨_, h1, ?_, h4⟩
    unfold nxN nxT nxE; rw [if_neg he, if_neg he, if_neg he]
    exact passV_none F W'

/-- How many tries a run makes. -/
noncomputable def stepsOf (F : Nat → Flg) (n : Nat) (ans : Nat → Nat → Option Bool) (a0 : Nat) : Nat := by
  classical
  exact if h : ∃ i, Halt F n ans a0 i ∧ Good F n ans a0 i then h.choose else 0
theorem stepsOf_is {F : Nat → Flg} {n : Nat} {ans : Nat → Nat → Option Bool} {a0 i : Nat} (h : Halt F n ans a0 i) (g : Good F n ans a0 i) : stepsOf F n ans a0 = i := by
  have hex : ∃ i, Halt F n ans a0 i ∧ Good F n ans a0 i := ⟨i, h, g⟩
  unfold stepsOf
  rw [dif_pos hex]
  exact steps_unique hex.choose_spec.1 hex.choose_spec.2 h g
noncomputable def rnI (F : Nat → Flg) (n : Nat) (t : Int) (e : Bool) (G : Nat → Bool) (m : Nat) : Nat := stepsOf F n (ansL G m) t.toNat
def rnN (F : Nat → Flg) (n : Nat) (t : Int) (e : Bool) (m : Nat) : Nat := if runE F n t e m = 0 then n else 0
noncomputable def rnT (F : Nat → Flg) (n : Nat) (t : Int) (e : Bool) (G : Nat → Bool) (m : Nat) : Int := if runE F n t e m = 0 then (atN F n (ansL G m) t.toNat (rnI F n t e G m) : Int) else 0
noncomputable def rnE (F : Nat → Flg) (n : Nat) (t : Int) (e : Bool) (G : Nat → Bool) (m : Nat) : Bool := if runE F n t e m = 0 then enN F n (ansL G m) t.toNat e (rnI F n t e G m) else false
noncomputable def rnL (F : Nat → Flg) (n : Nat) (t : Int) (e : Bool) (G : Nat → Bool) (m : Nat) : List Nat := if runE F n t e m = 0 then triedN F n (ansL G m) t.toNat (rnI F n t e G m) else []
/-- A list of ints in a world. -/
def IntsV (L : List Nat) (v : Value) (W : World) : Prop := ∃ A c, v = .slice A (L.map fun (k : Nat) => (k : Int)).length c ∧ Cells W A 1 (L.map fun (k : Nat) => (k : Int)).length (intsAt (L.map fun (k : Nat) => (k : Int))) ∧ ∀ a, A = some a → ∃ cs, Blk W a.block 3 cs
theorem IntsV.below {L : List Nat} {v : Value} {W W' : World} (h : IntsV L v W) (hb : Below W.heap.size W W') : IntsV L v W' := by
  obtain ⟨A, c, h1, h2, h3⟩ := h
  exact ⟨A, c, h1, h2.below hb, fun a ha => by obtain ⟨cs, hcs⟩ := h3 a ha; exact ⟨cs, hcs.call hb⟩⟩
theorem IntsV.store {L : List Nat} {v : Value} {W : World} {g : Nat} {T : TypeId} {cs : Array Value} (h : IntsV L v W) (hb : Blk W g T cs) (hT : 3 ≠ T) (i : Nat) (u : Value) : IntsV L v (W.setCell ⟨g, i, none⟩ u) := by
  obtain ⟨A, c, h1, h2, h3⟩ := h
  have hne : ∀ a, A = some a → a.block ≠ g := fun a ha => by
    obtain ⟨cs', hcs⟩ := h3 a ha
    exact Blk.ne_ hcs hb hT
  exact ⟨A, c, h1, h2.far hne i u, fun a ha => by obtain ⟨cs', hcs⟩ := h3 a ha; exact ⟨cs', hcs.far (p := ⟨g, i, none⟩) (hne a ha) u⟩⟩
theorem run_zero {F : Nat → Flg} {n m : Nat} {t : Int} {e : Bool} (h : runE F n t e m = 0) : passE F n t e = 0 ∧ m ≤ 10000 ∧ ∃ a0 : Nat, t = a0 := by
  unfold runE at h
  by_cases hp : passE F n t e = 0
  · rw [if_pos hp] at h
    by_cases hm : 10000 < m
    · rw [if_pos hm] at h; cases h
    · obtain ⟨_, h0, _, _⟩ := passE_zero hp
      exact ⟨hp, by omega, Int.eq_ofNat_of_zero_le h0⟩
  · rw [if_neg hp] at h; exact absurd h hp
theorem ints_of_own {W : World} {B i : Nat} {v : Value} {l : List Nat} (hi : i = l.length) (h : W.ownsRow B 3 1 v i (intL l)) : IntsV l v W := by
  obtain ⟨A, c, h1, h2, _⟩ := own_ints hi h
  refine ⟨A, c, by rw [List.length_map]; exact h1, by rw [List.length_map]; exact h2, fun a ha => ?_⟩
  rcases h.2 with ⟨hv, _⟩ | ⟨g, cap, cur, hv, _, hg, _⟩
  · rw [h1, ha] at hv; cases hv
  · rw [h1, ha] at hv; cases hv; exact ⟨cur, hg⟩

theorem prunU (F : Nat → Flg) (hF : SkipOk F) (A AA : Option Addr) (n c m cc : Nat) (t : Int) (en : Bool) (G : Nat → Bool) (ht : -9223372036854775808 ≤ t ∧ t ≤ 9223372036854775807) (hn : n ≤ 1000000) (hm : m ≤ 1000000) (w : World) (hT : Tabs w) (hA : ArgOk A n c) (hc : Cells w A 10 n (flgAt F)) (hg : Cells w AA 1 m (boolAt G)) :
    Calls Tryd.prog 24 #[.agg #[.slice A n c, .int .i64 t, .bool en], .slice AA m cc] w fun e W' => ∃ v l, e = .returned (.tuple #[v, l, .int .i64 (runE F n t en m)]) ∧ PassV F (rnN F n t en m) (rnT F n t en G m) (rnE F n t en G m) v W' ∧ IntsV (rnL F n t en G m) l W' ∧ (rnL F n t en G m).length ≤ m ∧ Below w.heap.size w W' := by
  by_cases he : runE F n t en m = 0
  · obtain ⟨hp, hm2, a0, rfl⟩ := run_zero he
    refine (prun_ok F hF A AA n c m cc a0 en G hn hm2 w hT hA hc hg hp).mono fun e W' ⟨B, d, i, v, h1, h2, h3, h4, h5, h6, h7, h8⟩ => ?_
    have hs : rnI F n (a0 : Int) en G m = i := stepsOf_is h3 h4
    have hL : rnL F n (a0 : Int) en G m = triedN F n (ansL G m) a0 i := by unfold rnL; rw [if_pos he, hs]; rfl
    refine ⟨_, v, by rw [h1, he], ⟨B, d, ?_, ?_, ?_⟩, ?_, ?_, h8⟩
    · unfold rnN rnT rnE; rw [if_pos he, if_pos he, if_pos he, hs]; rfl
    · unfold rnN; rw [if_pos he]; exact h5
    · unfold rnN; rw [if_pos he]; exact h6
    · rw [hL]; exact ints_of_own (by rw [triedN_len]) h7
    · rw [hL, triedN_len]; exact h2
  · have hL : rnL F n t en G m = [] := by unfold rnL; rw [if_neg he]
    refine (prun_bad F hF A AA n c m cc t en ht hn hm w hT hc he).mono fun e W' ⟨h1, h4⟩ => ⟨_, _, h1, ?_, ?_, by rw [hL]; exact Nat.zero_le _, h4⟩
    · unfold rnN rnT rnE; rw [if_neg he, if_neg he, if_neg he]
      exact passV_none F W'
    · rw [hL]; exact ⟨none, 0, rfl, fun h => absurd h (by decide), fun a ha => by cases ha⟩
theorem rrunU (F : Nat → Flg) (hF : SkipOk F) (A AA : Option Addr) (n c m cc : Nat) (t : Int) (en : Bool) (G : Nat → Bool) (ht : -9223372036854775808 ≤ t ∧ t ≤ 9223372036854775807) (hn : n ≤ 1000000) (hm : m ≤ 1000000) (w : World) (hA : ArgOk A n c) (hc : Cells w A 10 n (flgAt F)) (hg : Cells w AA 1 m (boolAt G)) :
    Calls Tryd.prog 26 #[.agg #[.slice A n c, .int .i64 t, .bool en], .slice AA m cc] w fun e W' => ∃ v l, e = .returned (.tuple #[v, l, .int .i64 (runE F n t en m)]) ∧ PassV F (rnN F n t en m) (rnT F n t en G m) (rnE F n t en G m) v W' ∧ IntsV (rnL F n t en G m) l W' ∧ (rnL F n t en G m).length ≤ m ∧ Below w.heap.size w W' := by
  by_cases he : runE F n t en m = 0
  · obtain ⟨hp, hm2, a0, rfl⟩ := run_zero he
    refine (rrun_ok F hF A AA n c m cc a0 en G hn hm2 w hA hc hg hp).mono fun e W' ⟨B, d, i, v, h1, h2, h3, h4, h5, h6, h7, h8⟩ => ?_
    have hs : rnI F n (a0 : Int) en G m = i := stepsOf_is h3 h4
    have hL : rnL F n (a0 : Int) en G m = triedN F n (ansL G m) a0 i := by unfold rnL; rw [if_pos he, hs]; rfl
    refine ⟨_, v, by rw [h1, he], ⟨B, d, ?_, ?_, ?_⟩, ?_, ?_, h8⟩
    · unfold rnN rnT rnE; rw [if_pos he, if_pos he, if_pos he, hs]; rfl
    · unfold rnN; rw [if_pos he]; exact h5
    · unfold rnN; rw [if_pos he]; exact h6
    · rw [hL]; exact ints_of_own (by rw [triedN_len]) h7
    · rw [hL, triedN_len]; exact h2
  · have hL : rnL F n t en G m = [] := by unfold rnL; rw [if_neg he]
    refine (rrun_bad F hF A AA n c m cc t en ht hn hm w hc he).mono fun e W' ⟨h1, h4⟩ => ⟨_, _, h1, ?_, ?_, by rw [hL]; exact Nat.zero_le _, h4⟩
    · unfold rnN rnT rnE; rw [if_neg he, if_neg he, if_neg he]
      exact passV_none F W'
    · rw [hL]; exact ⟨none, 0, rfl, fun h => absurd h (by decide), fun a ha => by cases ha⟩
end Go.Proofs.YtjkmkpehnnkpiaaDoor
