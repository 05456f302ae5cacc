/-
  slices.IndexFunc and slices.ContainsFunc at lists of lists, with the two predicates of scc.made, walked; conditions: at most 1000 lists.
-/
import Derived.Test.YtjgkiiohbceocaaScK
import Derived.Deep.QuietTactic
import Derived.Deep.RegionWith
import Derived.Deep.RegionLaw
import Derived.BigQuiet
namespace Go.Proofs.Ytjgkiiohbceocaa
open Go.RowKit
set_option linter.unusedVariables false
set_option linter.unusedSimpArgs false

set_option maxRecDepth 100000 in
set_option maxHeartbeats 1000000 in
theorem idx_free (xs : List Value) (p : Nat → Bool) (b c : Nat) (p1 p2 : Addr) (w : World) (hlen : xs.length ≤ 1000) (hlt : b < w.heap.size) (hxs : ∀ k u, xs[k]? = some u → w.cell? ⟨b, k, none⟩ = some u)
    (hp : ∀ k u W, xs[k]? = some u → Below w.heap.size w W → Calls Try.prog 59 #[u, .pointer (some p1), .pointer (some p2)] W fun e W' => e = .returned (.bool (p k)) ∧ Below W.heap.size W W') :
    Calls Try.prog 62 #[.slice (some ⟨b, 0, none⟩) xs.length c, .func (.func 59) #[] #[.pointer (some p1), .pointer (some p2)]] w fun e w' =>
      ((∃ k, k < xs.length ∧ e = .returned (.int .i64 (k : Int)) ∧ p k = true ∧ ∀ j, j < k → p j = false) ∨ (e = .returned (.int .i64 (-1)) ∧ ∀ j, j < xs.length → p j = false)) ∧ Below w.heap.size w w' := by
  obtain ⟨n, hn⟩ : ∃ n, n = xs.length := ⟨_, rfl⟩
  have H := Lib.hid (And.intro hxs (And.intro hp hn))
  rw [← hn] at hlen ⊢
  clear hxs hp hn
  go_enter Try.func62, Try.ntmps62
  go_wp2_with (fail)
  go_loopw [8] (fun iv wr => ∃ k : Nat, k ≤ n ∧ iv = .int .i64 (k : Int) ∧ (∀ j, j < k → p j = false) ∧ Below w.heap.size w wr) (fun iv _ => n - (intOf iv).toNat)
  case atStart => exact ⟨0, Nat.zero_le _, rfl, fun j hj => absurd hj (Nat.not_lt_zero j), Below.refl _ _⟩
  case round =>
    obtain ⟨k, hk, rfl, hf, hbel⟩ := hrel
    by_cases hkn : k < n
    · obtain ⟨u, hu⟩ : ∃ u, xs[k]? = some u := ⟨_, List.getElem?_eq_getElem (by rw [← H.out.2.2]; exact hkn)⟩
      have cu : wr.cell? ⟨b, k, none⟩ = some u := by rw [hbel.cell (p := ⟨b, k, none⟩) hlt]; exact H.out.1 k u hu
      have hbz := hbel.size
      have B := Lib.hid (And.intro hf (And.intro hbel hu))
      clear hf hbel hu
      go_wp2_with (fail)
      refine (H.out.2.1 k u _ B.out.2.2 B.out.2.1).mono ?_
      rintro e W1 ⟨rfl, h1⟩
      have H1 := Lib.hid (gr_call B.out.2.1 h1)
      clear h1
      cases hpk : p k with
      | true =>
        have HP := Lib.hid hpk
        clear hpk
        go_wp2_with (fail)
        go_ret
        exact ⟨.inl ⟨k, hkn, rfl, HP.out, B.out.1⟩, H1.out⟩
      | false =>
        have HP := Lib.hid hpk
        clear hpk
        go_wp2_with (fail)
        go_roundw
        case rel =>
          refine ⟨k + 1, hkn, rfl, fun j hj => ?_, H1.out⟩
          by_cases e : j = k
          · subst e; exact HP.out
          · exact B.out.1 j (by omega)
        case measure => simp [intOf]; omega
    · have ek : k = n := by omega
      subst k
      have B := Lib.hid (And.intro hf hbel)
      clear hf hbel hkn
      go_wp2_with (fail)
      go_ret
      exact ⟨.inr ⟨rfl, B.out.1⟩, B.out.2⟩

set_option maxRecDepth 100000 in
set_option maxHeartbeats 1000000 in
theorem con_free (xs : List Value) (p : Nat → Bool) (b c : Nat) (p1 p2 : Addr) (w : World) (hlen : xs.length ≤ 1000) (hlt : b < w.heap.size) (hxs : ∀ k u, xs[k]? = some u → w.cell? ⟨b, k, none⟩ = some u)
    (hp : ∀ k u W, xs[k]? = some u → Below w.heap.size w W → Calls Try.prog 59 #[u, .pointer (some p1), .pointer (some p2)] W fun e W' => e = .returned (.bool (p k)) ∧ Below W.heap.size W W') :
    Calls Try.prog 60 #[.slice (some ⟨b, 0, none⟩) xs.length c, .func (.func 59) #[] #[.pointer (some p1), .pointer (some p2)]] w fun e w' =>
      e = .returned (.bool ((List.range xs.length).any p)) ∧ Below w.heap.size w w' := by
  obtain ⟨n, hn⟩ : ∃ n, n = xs.length := ⟨_, rfl⟩
  have H := Lib.hid (And.intro hxs (And.intro hp (And.intro hn (And.intro hlen hlt))))
  rw [← hn]
  clear hxs hp
  go_enter Try.func60, Try.ntmps60
  go_wp2_with (fail)
  rw [hn]
  refine (idx_free xs p b c p1 p2 _ H.out.2.2.2.1 H.out.2.2.2.2 H.out.1 H.out.2.1).mono ?_
  rintro e W1 ⟨h1, h2⟩
  have H2 := Lib.hid h2
  clear h2
  rcases h1 with ⟨k, hk, rfl, hpk, hj⟩ | ⟨rfl, hj⟩
  · have hk0 : 0 ≤ (k : Int) := by omega
    have HP := Lib.hid (And.intro hk hpk)
    clear hk hpk hj hlen hlt hn
    go_wp2_with (fail)
    go_ret
    exact ⟨ret_bool (List.any_eq_true.2 ⟨k, List.mem_range.2 (by rw [H.out.2.2.1]; exact HP.out.1), HP.out.2⟩).symm, H2.out⟩
  · have HP := Lib.hid hj
    clear hj hlen hlt hn
    go_wp2_with (fail)
    go_ret
    refine ⟨ret_bool ?_, H2.out⟩
    symm
    rw [List.any_eq_false]
    intro j hj
    rw [HP.out j (by rw [← H.out.2.2.1]; exact List.mem_range.1 hj)]
    decide

set_option maxRecDepth 100000 in
set_option maxHeartbeats 1000000 in
theorem idx_in (xs : List Value) (p : Nat → Bool) (b c : Nat) (p1 p2 : Addr) (w : World) (hlen : xs.length ≤ 1000) (hlt : b < w.heap.size) (hxs : ∀ k u, xs[k]? = some u → w.cell? ⟨b, k, none⟩ = some u)
    (hp : ∀ k u W, xs[k]? = some u → Below w.heap.size w W → Calls Try.prog 61 #[u, .pointer (some p1), .pointer (some p2)] W fun e W' => e = .returned (.bool (p k)) ∧ Below W.heap.size W W') :
    Calls Try.prog 62 #[.slice (some ⟨b, 0, none⟩) xs.length c, .func (.func 61) #[] #[.pointer (some p1), .pointer (some p2)]] w fun e w' =>
      ((∃ k, k < xs.length ∧ e = .returned (.int .i64 (k : Int)) ∧ p k = true ∧ ∀ j, j < k → p j = false) ∨ (e = .returned (.int .i64 (-1)) ∧ ∀ j, j < xs.length → p j = false)) ∧ Below w.heap.size w w' := by
  obtain ⟨n, hn⟩ : ∃ n, n = xs.length := ⟨_, rfl⟩
  have H := Lib.hid (And.intro hxs (And.intro hp hn))
  rw [← hn] at hlen ⊢
  clear hxs hp hn
  go_enter Try.func62, Try.ntmps62
  go_wp2_with (fail)
  go_loopw [8] (fun iv wr => ∃ k : Nat, k ≤ n ∧ iv = .int .i64 (k : Int) ∧ (∀ j, j < k → p j = false) ∧ Below w.heap.size w wr) (fun iv _ => n - (intOf iv).toNat)
  case atStart => exact ⟨0, Nat.zero_le _, rfl, fun j hj => absurd hj (Nat.not_lt_zero j), Below.refl _ _⟩
  case round =>
    obtain ⟨k, hk, rfl, hf, hbel⟩ := hrel
    by_cases hkn : k < n
    · obtain ⟨u, hu⟩ : ∃ u, xs[k]? = some u := ⟨_, List.getElem?_eq_getElem (by rw [← H.out.2.2]; exact hkn)⟩
      have cu : wr.cell? ⟨b, k, none⟩ = some u := by rw [hbel.cell (p := ⟨b, k, none⟩) hlt]; exact H.out.1 k u hu
      have hbz := hbel.size
      have B := Lib.hid (And.intro hf (And.intro hbel hu))
      clear hf hbel hu
      go_wp2_with (fail)
      refine (H.out.2.1 k u _ B.out.2.2 B.out.2.1).mono ?_
      rintro e W1 ⟨rfl, h1⟩
      have H1 := Lib.hid (gr_call B.out.2.1 h1)
      clear h1
      cases hpk : p k with
      | true =>
        have HP := Lib.hid hpk
        clear hpk
        go_wp2_with (fail)
        go_ret
        exact ⟨.inl ⟨k, hkn, rfl, HP.out, B.out.1⟩, H1.out⟩
      | false =>
        have HP := Lib.hid hpk
        clear hpk
        go_wp2_with (fail)
        go_roundw
        case rel =>
          refine ⟨k + 1, hkn, rfl, fun j hj => ?_, H1.out⟩
          by_cases e : j = k
          · subst e; exact HP.out
          · exact B.out.1 j (by omega)
        case measure => simp [intOf]; omega
    · have ek : k = n := by omega
      subst k
      have B := Lib.hid (And.intro hf hbel)
      clear hf hbel hkn
      go_wp2_with (fail)
      go_ret
      exact ⟨.inr ⟨rfl, B.out.1⟩, B.out.2⟩

set_option maxRecDepth 100000 in
set_option maxHeartbeats 1000000 in
theorem con_in (xs : List Value) (p : Nat → Bool) (b c : Nat) (p1 p2 : Addr) (w : World) (hlen : xs.length ≤ 1000) (hlt : b < w.heap.size) (hxs : ∀ k u, xs[k]? = some u → w.cell? ⟨b, k, none⟩ = some u)
    (hp : ∀ k u W, xs[k]? = some u → Below w.heap.size w W → Calls Try.prog 61 #[u, .pointer (some p1), .pointer (some p2)] W fun e W' => e = .returned (.bool (p k)) ∧ Below W.heap.size W W') :
    Calls Try.prog 60 #[.slice (some ⟨b, 0, none⟩) xs.length c, .func (.func 61) #[] #[.pointer (some p1), .pointer (some p2)]] w fun e w' =>
      e = .returned (.bool ((List.range xs.length).any p)) ∧ Below w.heap.size w w' := by
  obtain ⟨n, hn⟩ : ∃ n, n = xs.length := ⟨_, rfl⟩
  have H := Lib.hid (And.intro hxs (And.intro hp (And.intro hn (And.intro hlen hlt))))
  rw [← hn]
  clear hxs hp
  go_enter Try.func60, Try.ntmps60
  go_wp2_with (fail)
  rw [hn]
  refine (idx_in xs p b c p1 p2 _ H.out.2.2.2.1 H.out.2.2.2.2 H.out.1 H.out.2.1).mono ?_
  rintro e W1 ⟨h1, h2⟩
  have H2 := Lib.hid h2
  clear h2
  rcases h1 with ⟨k, hk, rfl, hpk, hj⟩ | ⟨rfl, hj⟩
  · have hk0 : 0 ≤ (k : Int) := by omega
    have HP := Lib.hid (And.intro hk hpk)
    clear hk hpk hj hlen hlt hn
    go_wp2_with (fail)
    go_ret
    exact ⟨ret_bool (List.any_eq_true.2 ⟨k, List.mem_range.2 (by rw [H.out.2.2.1]; exact HP.out.1), HP.out.2⟩).symm, H2.out⟩
  · have HP := Lib.hid hj
    clear hj hlen hlt hn
    go_wp2_with (fail)
    go_ret
    refine ⟨ret_bool ?_, H2.out⟩
    symm
    rw [List.any_eq_false]
    intro j hj
    rw [HP.out j (by rw [← H.out.2.2.1]; exact List.mem_range.1 hj)]
    decide

/-- Whether a list's first node is not another list's, and reaches it. -/
def prP (R : Nat → Nat → Bool) (a b : Nat) : Bool := decide (a ≠ b) && R a b
set_option maxRecDepth 100000 in
set_option maxHeartbeats 1000000 in
theorem inner_code (n : Nat) (hn : n ≤ 64) (E : Nat → Nat → Bool) (bg bl bx bv g1 n1 c1 g2 n2 c2 a b : Nat) (pv kv : Value) (w : World) (hg : GrOk w bg bl n E pv kv) (h1 : 0 < n1) (h2 : 0 < n2) (ha : a < 64) (hb : b < 64)
    (ca : w.cell? ⟨g1, 0, none⟩ = some (.int .i64 (a : Int))) (cx : w.cell? ⟨bx, 0, none⟩ = some (.slice (some ⟨g2, 0, none⟩) n2 c2)) (cb : w.cell? ⟨g2, 0, none⟩ = some (.int .i64 (b : Int))) (cv : w.cell? ⟨bv, 0, none⟩ = some (.pointer (some ⟨bg, 0, none⟩))) :
    Calls Try.prog 61 #[.slice (some ⟨g1, 0, none⟩) n1 c1, .pointer (some ⟨bx, 0, none⟩), .pointer (some ⟨bv, 0, none⟩)] w fun e w' => e = .returned (.bool (prP (rea n E) a b)) ∧ Below w.heap.size w w' := by
  have d0 := hg.gr.cell' (i := 0) rfl
  have hgo := fun W (hW : Blk W bl 79 (lnkC E (rea n E))) => goes_code bl 79 _ (rea n E) a b W hW (lnkC_reach E (rea n E) ha) ha hb
  have HG := Lib.hid (And.intro hg.ln hgo)
  have h1' : (0 : Int) < n1 := by omega
  have h2' : (0 : Int) < n2 := by omega
  clear hg hgo
  unfold prP
  by_cases hab : a = b
  · have e1 : ((a : Int) != (b : Int)) = false := by rw [hab]; simp
    have HAB := Lib.hid hab
    rw [decide_eq_false (fun h => h hab), Bool.false_and]
    clear hab
    go_enter Try.func61, Try.ntmps61
    go_wp2_with (fail)
    go_region
    all_goals
      go_wp2_with (fail)
      go_ret
      exact ⟨rfl, ⟨rfl, rfl, rfl, Nat.le_refl _, fun _ _ => rfl⟩⟩
  · have e1 : ((a : Int) != (b : Int)) = true := by simp; omega
    rw [decide_eq_true hab, Bool.true_and]
    clear hab
    go_enter Try.func61, Try.ntmps61
    go_wp2_with (fail)
    go_quiet ((go_at_call 44; exact quiet_left (HG.out.2 _ (by exact HG.out.1))))
    go_wp2_with (fail)
    go_ret
    exact ⟨rfl, below_drewN (Below.refl _ _) _⟩
end Go.Proofs.Ytjgkiiohbceocaa
