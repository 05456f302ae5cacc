/-
  The law's same, walked; no condition beyond sizes.
-/
import Derived.Test.YtpicenopiigfpaaDoorRwM
namespace Go.Proofs.YtpicenopiigfpaaDoor
open Go.RowKit
set_option linter.unusedVariables false
set_option linter.unusedSimpArgs false

set_option maxRecDepth 100000 in
set_option maxHeartbeats 4000000 in
theorem lsame (l : List Rw) (hl : l.length ≤ 100000000) (hw : ∀ r ∈ l, r.w.length ≤ 100000000) (v u : Value) (w : World) (hv : RowsIn w v l) (hu : RowsIn w u l) :
    Calls Tryd.prog 13 #[v, u] w fun e W' => e = .returned (.bool true) ∧ Below w.heap.size w W' := by
  obtain ⟨A, c, vs, rfl, _, hA, hvs, hai⟩ := hv
  obtain ⟨B, d, us, rfl, _, hB, hus, hbi⟩ := hu
  obtain ⟨n, hn⟩ : ∃ n, n = l.length := ⟨_, rfl⟩
  have HA := Lib.hid (And.intro hA (And.intro hB (And.intro hn (And.intro hvs (And.intro hus (And.intro hai (And.intro hbi hw)))))))
  rw [← hn] at hl ⊢
  clear hA hB hn hvs hus hai hbi hw
  go_enter Tryd.func13, Tryd.ntmps13
  go_wp2_with (fail)
  go_loopw [5] (fun iv wr => ∃ k q : Nat, k ≤ n ∧ iv = .int .i64 (k : Int) ∧ wr = w.drewN q) (fun iv _ => n - (intOf iv).toNat)
  case atStart => exact ⟨0, 0, Nat.zero_le _, rfl, rfl⟩
  case round =>
    obtain ⟨k, q, hk, rfl, rfl⟩ := hrel
    by_cases hlt : k < n
    · obtain ⟨hA, hB, hn, hvs, hus, hai, hbi, hw⟩ := HA.out
      obtain ⟨p, hp⟩ : ∃ p, l[k]? = some p := ⟨_, List.getElem?_eq_getElem (by rw [← hn]; exact hlt)⟩
      obtain ⟨x, hx⟩ : ∃ x, vs[k]? = some x := ⟨_, List.getElem?_eq_getElem (by rw [hvs, ← hn]; exact hlt)⟩
      obtain ⟨y, hy⟩ : ∃ x, us[k]? = some x := ⟨_, List.getElem?_eq_getElem (by rw [hus, ← hn]; exact hlt)⟩
      obtain ⟨ab, ao, rfl, hab, c0, c1⟩ := cells_rw hA hp hx
      obtain ⟨bb, bo, rfl, hbb, d0, d1⟩ := cells_rw hB hp hy
      have hsw := fun (m : Nat) => lsameWords p.w (hw p (List.mem_of_getElem? hp)) x y (w.drewN m) ((hai k p x hp hx).drewN m) ((hbi k p y hp hy).drewN m)
      obtain ⟨x1, x2, x3, _⟩ := hai k p x hp hx
      obtain ⟨y1, y2, y3, _⟩ := hbi k p y hp hy
      subst x3 y3
      obtain ⟨p1, p2⟩ := p
      have hne : ((p1 : Int) != (p1 : Int)) = false := by simp
      clear hA hB hn hvs hus hai hbi hw hp hx hy
      go_wp2_with (fail)
      go_quiet ((go_at_call 17; exact quiet_add (hsw _)))
      go_wp2_with (fail)
      go_roundw
      case rel => exact ⟨k + 1, q + nq, by omega, rfl, rfl⟩
      case measure => simp [intOf]; omega
    · go_wp2_with (fail)
      go_ret
      exact ⟨rfl, below_drewN (Below.refl _ _) q⟩
end Go.Proofs.YtpicenopiigfpaaDoor
