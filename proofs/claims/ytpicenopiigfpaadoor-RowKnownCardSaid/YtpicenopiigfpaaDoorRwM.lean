/-
  The law's texts, same, reads and awake, walked; condition: the variable ErrSyntax holds an interface value.
-/
import Derived.Test.YtpicenopiigfpaaDoorRwL
import Derived.Test.YtpicenopiigfpaaDoorRwK
import Derived.Test.YtpicenopiigfpaaDoorRwBl
namespace Go.Proofs.YtpicenopiigfpaaDoor
open Go.RowKit
set_option linter.unusedVariables false
set_option linter.unusedSimpArgs false

theorem textsF_take {rs : List Rw} {k : Nat} {r : Rw} (h : rs[k]? = some r) : textsF (rs.take (k + 1)) = textsF (rs.take k) ++ aRow :: r.w.map (·.t) := by
  unfold textsF
  rw [List.take_add_one, h]
  simp
theorem infoStr : (Tryd.prog.info? 9).map (fun i => (i.zero, i.size, i.bytes)) = some (some (.string ⟨#[]⟩), 1, 16) := by kernel_rfl
theorem txC_append (a b : List ByteArray) : txC (a ++ b) = txC a ++ txC b := by simp [txC]
theorem txC_len (a : List ByteArray) : (txC a).length = a.length := by simp [txC]

set_option maxRecDepth 100000 in
set_option maxHeartbeats 4000000 in
theorem ltexts (rs : List Rw) (M : Nat) (hM : M ≤ 100000000) (hl : (textsF rs).length ≤ M) (v : Value) (w : World) (hv : RowsIn w v rs) :
    Calls Tryd.prog 14 #[v] w fun e W' => ∃ u, e = .returned u ∧ W'.ownsRow w.heap.size 9 1 u (textsF rs).length (txC (textsF rs)) ∧ Below w.heap.size w W' := by
  obtain ⟨i0, hi, hz0, hz1, hz2⟩ := info_parts infoStr
  have hpre : ∀ k, (textsF (rs.take k)).length ≤ M := fun k => by
    have : (textsF (rs.take k)).length ≤ (textsF rs).length := by
      conv => rhs; rw [← List.take_append_drop k rs]
      unfold textsF
      rw [List.flatMap_append, List.length_append]
      omega
    omega
  obtain ⟨A, c, vs, rfl, _, hA, hvs, hin⟩ := hv
  have hlr : rs.length ≤ M := by
    have key : ∀ l : List Rw, l.length ≤ (textsF l).length := by
      intro l
      induction l with
      | nil => exact Nat.le_refl _
      | cons a t ih => unfold textsF at *; rw [List.flatMap_cons, List.length_append, List.length_cons, List.length_cons]; omega
    have := key rs
    omega
  obtain ⟨n, hn⟩ : ∃ n, n = rs.length := ⟨_, rfl⟩
  have HA := Lib.hid (And.intro hA (And.intro hin (And.intro hvs (And.intro hn (And.intro hpre hl)))))
  rw [← hn] at hlr ⊢
  clear hA hin hvs hn hpre hl
  go_enter Tryd.func14, Tryd.ntmps14
  go_wp2_with (fail)
  go_loopg [3, 4] n (fun m ov iv wr => ∃ k : Nat, m = n - k ∧ k ≤ n ∧ iv = .int .i64 (k : Int) ∧ wr.ownsRow w.heap.size 9 1 ov (textsF (rs.take k)).length (txC (textsF (rs.take k))) ∧ Below w.heap.size w wr)
  case atStart => exact ⟨0, rfl, Nat.zero_le _, rfl, World.ownsRow_nil _ _ _ _, Below.refl _ _⟩
  case round =>
    obtain ⟨k, hm, hk, rfl, hown, hbel⟩ := hrel
    obtain ⟨va, vc, rfl⟩ := own_slice hown
    have hWz := hbel.size
    by_cases hlt : k < n
    · obtain ⟨r, hr⟩ : ∃ r, rs[k]? = some r := ⟨_, List.getElem?_eq_getElem (by rw [← HA.out.2.2.2.1]; exact hlt)⟩
      obtain ⟨u, hu⟩ : ∃ u, vs[k]? = some u := ⟨_, List.getElem?_eq_getElem (by rw [HA.out.2.2.1, ← HA.out.2.2.2.1]; exact hlt)⟩
      obtain ⟨ab, ao, rfl, hab, c0, c1⟩ := cells_rw (HA.out.1.below hbel) hr hu
      obtain ⟨B, d, rfl, _, hB⟩ := (HA.out.2.1 k r u hr hu).below hbel
      have htk := textsF_take hr
      have hlen := HA.out.2.2.2.2.1 (k + 1)
      rw [htk, List.length_append, List.length_cons, List.length_map] at hlen
      have F := Lib.hid (And.intro hm (And.intro hown (And.intro hbel (And.intro hB (And.intro htk (And.intro hr hu))))))
      have hl0 : (textsF (rs.take k)).length ≤ M := by omega
      clear hm hown hbel hB htk hr hu
      go_wp2_with (at_builtin; refine wpList_append_own _ rfl _ _ 31 rfl w.heap.size 9 i0 (.string ⟨#[]⟩) 1 16 Tryd.underlying31 hi hz0 hz1 hz2 rfl (by decide) _ _ _ rfl (F.out.2.1.alloc _) ⟨wr.heap.size, 0, none⟩ 1 1 [.string aRow] rfl rfl ?c1 ?c2 ?c3 ?c4 ?c5 ?_)
      case c1 => exact many_new rfl _ _
      case c2 => intro u hu; simp at hu; subst hu; rfl
      case c3 => unfold maxLen; omega
      case c4 => omega
      case c5 => simp; omega
      intro v' W2 hown' hgrow _
      obtain ⟨vb, vd, rfl⟩ := own_slice hown'
      have hb2 : Below w.heap.size w W2 := (gr_alloc F.out.2.2.1 _).grown hgrow (by simp; omega) (fun q hq => (F.out.2.1.lt q hq).1)
      have hown2 : W2.ownsRow w.heap.size 9 1 (.slice vb ((textsF (rs.take k)).length + 1) vd) (textsF (rs.take k) ++ aRow :: (r.w.take 0).map (·.t)).length (txC (textsF (rs.take k) ++ aRow :: (r.w.take 0).map (·.t))) := by
        rw [txC_append, List.length_append]
        exact hown'
      have G := Lib.hid (And.intro hown2 hb2)
      clear hown' hgrow hown2 hb2 c0 c1 hab
      go_wp2_with (fail)
      go_loopg [3, 5] r.w.length (fun m ov iv wx => ∃ j : Nat, m = r.w.length - j ∧ j ≤ r.w.length ∧ iv = .int .i64 (j : Int) ∧ wx.ownsRow w.heap.size 9 1 ov (textsF (rs.take k) ++ aRow :: (r.w.take j).map (·.t)).length (txC (textsF (rs.take k) ++ aRow :: (r.w.take j).map (·.t))) ∧ Below w.heap.size w wx)
      case atStart => exact ⟨0, rfl, Nat.zero_le _, rfl, G.out.1, G.out.2⟩
      case round =>
        obtain ⟨j, hj1, hj, rfl, hown, hbel⟩ := hrel
        obtain ⟨ve, vf, rfl⟩ := own_slice hown
        have hWz2 := hbel.size
        obtain ⟨hm, hown0, hbel0, hB0, htk0, hr, hu⟩ := F.out
        obtain ⟨ab, ao, hAe, hab, c0, c1⟩ := cells_rw (HA.out.1.below hbel) hr hu
        cases hAe
        obtain ⟨B', d', he, _, hB⟩ := (HA.out.2.1 k r _ hr hu).below hbel
        cases he
        generalize hX : (textsF (rs.take k) ++ aRow :: (r.w.take j).map (·.t)) = X at *
        have hXl : X.length ≤ M := by
          rw [← hX, List.length_append, List.length_cons, List.length_map, List.length_take]; omega
        by_cases hjl : j < r.w.length
        · obtain ⟨q, hq⟩ : ∃ q, r.w[j]? = some q := ⟨_, List.getElem?_eq_getElem hjl⟩
          obtain ⟨bb, bo, rfl, hbb, e0, e1, e2⟩ := cells_wd hB hq
          have hX1 : textsF (rs.take k) ++ aRow :: (r.w.take (j + 1)).map (·.t) = X ++ [q.t] := by
            rw [← hX, List.take_add_one, hq]
            simp
          have F2 := Lib.hid (And.intro hj1 (And.intro hown (And.intro hbel hX1)))
          clear hj1 hown hbel hX1 hX hm hown0 hbel0 hB0 htk0 hr hu hB hq
          go_wp2_with (at_builtin; refine wpList_append_own _ rfl _ _ 31 rfl w.heap.size 9 i0 (.string ⟨#[]⟩) 1 16 Tryd.underlying31 hi hz0 hz1 hz2 rfl (by decide) _ _ _ rfl (F2.out.2.1.alloc _) ⟨wr.heap.size, 0, none⟩ 1 1 [.string q.t] rfl rfl ?c1 ?c2 ?c3 ?c4 ?c5 ?_)
          case c2 => rfl
          case c3 => unfold maxLen; omega
          case c4 => omega
          case c5 => omega
          intro v' W3 hown' hgrow _
          obtain ⟨vg, vh, rfl⟩ := own_slice hown'
          have hb3 : Below w.heap.size w W3 := (gr_alloc F2.out.2.2.1 _).grown hgrow (by simp; omega) (fun q hq => (F2.out.2.1.lt q hq).1)
          have G2 := Lib.hid (And.intro hown' hb3)
          clear hown' hgrow hb3
          go_wp2_with (fail)
          go_roundg (r.w.length - (j + 1))
          case measure => have := F2.out.1; omega
          case rel =>
            refine ⟨j + 1, rfl, by omega, rfl, ?_, G2.out.2⟩
            rw [F2.out.2.2.2, txC_append, List.length_append]
            exact G2.out.1
        · have hje : j = r.w.length := by omega
          have F2 := Lib.hid (And.intro hown (And.intro hbel (And.intro hX hje)))
          clear hj1 hown hbel hX hm hown0 hbel0 hB0 htk0 hr hu hB hje
          go_wp2_with (fail)
          go_roundg (n - (k + 1))
          case measure => have := F.out.1; omega
          case rel =>
            refine ⟨k + 1, rfl, by omega, rfl, ?_, F2.out.2.1⟩
            have e : textsF (rs.take (k + 1)) = X := by rw [F.out.2.2.2.2.1, ← F2.out.2.2.1, F2.out.2.2.2, List.take_of_length_le (Nat.le_refl _)]
            rw [e]
            exact F2.out.1
    · have hke : k = n := by omega
      have ht : rs.take k = rs := List.take_of_length_le (by rw [← HA.out.2.2.2.1]; omega)
      have F := Lib.hid (And.intro hown (And.intro hbel ht))
      clear hm hown hbel ht hke
      go_wp2_with (fail)
      go_ret
      refine ⟨.slice va (textsF (rs.take k)).length vc, rfl, ?_, F.out.2.1⟩
      have h9 := F.out.1
      rw [F.out.2.2] at h9 ⊢
      exact h9
end Go.Proofs.YtpicenopiigfpaaDoor
