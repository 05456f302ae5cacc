/-
  pass.Fixed, walked: by the plain sequence of tries; condition: the flags are without error, as many answers as rules, 0 to 10,000 tries.
-/
import Derived.Test.YtjkmkpehnnkpiaaDoorPasZ
import Derived.Test.YtjkmkpehnnkpiaaDoorPasW
namespace Go.Proofs.YtjkmkpehnnkpiaaDoor
open Go.RowKit Go.Joins Go.Shelf
set_option linter.unusedVariables false
set_option linter.unusedSimpArgs false

/-- What Fixed answers: the list, the end, the error. -/
def FixP (F : Nat → Flg) (n : Nat) (G : Nat → Bool) (q : Nat) (L : List Nat) (en : Bool) (er : Int) : Prop :=
  (er = 0 ∧ ∃ i, i ≤ q ∧ Over F n G i ∧ L = sqL F n G i ∧ en = enN F n (ansF G q) 0 false i) ∨ (er = 13 ∧ L = [] ∧ ∀ j, j ≤ q → sq F n G j < n)

set_option maxRecDepth 100000 in
set_option maxHeartbeats 4000000 in
theorem pFixed (F : Nat → Flg) (hF : SkipOk F) (A AA : Option Addr) (n c cc q : Nat) (G : Nat → Bool) (hn : n ≤ 1000000) (hq : q ≤ 10000) (w : World) (hT : Tabs w) (hA : ArgOk A n c) (hc : Cells w A 10 n (flgAt F)) (hg : Cells w AA 1 n (boolAt G)) (he : flagsE F n = 0) :
    Calls Tryd.prog 33 #[.slice A n c, .slice AA n cc, .int .i64 (q : Int)] w fun e W' => ∃ v en er L, e = .returned (.tuple #[v, .bool en, .int .i64 er]) ∧ FixP F n G q L en er ∧ L.length ≤ q ∧ IntsV L v W' ∧ Below w.heap.size w W' := by
  have H := Lib.hid (And.intro hF (And.intro hT (And.intro hc (And.intro hA (And.intro hg he)))))
  clear hF hT hc hA hg he
  have hq0 : ¬ ((q : Int) < 0) := by omega
  have hq1 : ¬ ((10000 : Int) < (q : Int)) := by omega
  go_enter Tryd.func33, Tryd.ntmps33
  go_wp2_with (fail)
  refine (pfixed F H.out.1 A AA n c cc q G hn (by omega) w H.out.2.1 H.out.2.2.2.1 H.out.2.2.1 H.out.2.2.2.2.1 H.out.2.2.2.2.2).mono ?_
  rintro e W1 ⟨g, B, d, i, v, rfl, h1, h2, h3, h4, h5, h6⟩
  obtain ⟨s1, s2⟩ := fixed_stop h1 h2 h3
  rw [at_sq F n q G i h1] at h4
  rw [tried_sq h1] at h5
  obtain ⟨en, hen⟩ : ∃ en, en = enN F n (ansF G q) 0 false i := ⟨_, rfl⟩
  rw [← hen] at h4
  obtain ⟨t, ht⟩ : ∃ t, t = sq F n G i := ⟨_, rfl⟩
  rw [← ht] at h4
  have x0 := h4.cell' (i := 0) rfl
  have x1 := h4.cell' (i := 1) rfl
  have x2 := h4.cell' (i := 2) rfl
  have x3 := h4.cell' (i := 3) rfl
  have xl := h4.lt
  have hle := sq_le F n G i
  have hv := ints_of_own (by simp [sqL]) h5
  have hsl := own_slice h5
  rcases s2 with s2 | ⟨s2, s3⟩
  · have htn : t = n := by rw [ht]; have := s2.1; omega
    have H1 := Lib.hid (And.intro h1 (And.intro s2 (And.intro hv (And.intro h6 hen))))
    clear h1 h2 h3 h4 h5 h6 s1 s2 hle hv ht hen
    subst htn
    obtain ⟨va, vc, rfl⟩ := hsl
    go_wp2_with (go_at_call 50; refine (pover_yes g B t d _ hn x0 x1).mono ?_; rintro e W2 ⟨rfl, nq, rfl⟩)
    go_quiet (fail)
    go_wp2_with (fail)
    go_ret3
    exact ⟨_, en, 0, sqL F t G i, rfl, Or.inl ⟨rfl, i, H1.out.1, H1.out.2.1, rfl, H1.out.2.2.2.2⟩, by simp [sqL]; exact H1.out.1, H1.out.2.2.1, below_drewN (below_drewN H1.out.2.2.2.1 _) _⟩
  · have htn : t < n := by rw [ht]; exact s3
    have hall : ∀ j, j ≤ q → sq F n G j < n := fun j hj => by
      by_cases e : j = i
      · rw [e]; exact s3
      · exact s1 j (by omega)
    have H1 := Lib.hid (And.intro h6 hall)
    clear h1 h2 h3 h4 h5 h6 s1 s2 s3 hle hv ht hen hall
    obtain ⟨va, vc, rfl⟩ := hsl
    go_wp2_with (go_at_call 50; refine (pover_no g B n d t htn _ hn x0 x1).mono ?_; rintro e W2 ⟨rfl, nq, rfl⟩)
    go_ret3
    exact ⟨_, false, 13, [], rfl, Or.inr ⟨rfl, rfl, H1.out.2⟩, Nat.zero_le _, ⟨none, 0, rfl, fun h => absurd h (by decide), fun a ha => by cases ha⟩, below_drewN H1.out.1 _⟩
end Go.Proofs.YtjkmkpehnnkpiaaDoor
