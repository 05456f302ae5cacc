/-
  The reference of Text, walked; conditions: how many rows, words and bytes there are.
-/
import Derived.Test.YtpicenopiigfpaaDoorRxC
import Derived.Test.YtpicenopiigfpaaDoorRwQ
namespace Go.Proofs.YtpicenopiigfpaaDoor
open Go.RowKit
set_option linter.unusedVariables false
set_option linter.unusedSimpArgs false

theorem line_bound {r : Rw} (hrw : r.w.length ≤ 1000) (hrd : ∀ d ∈ r.w, d.t.size ≤ 2000) (j : Nat) : (preT r j).length ≤ 8003000 := by
  have h1 := preT_len 2000 j hrd
  have h2 : r.w.length * (4 * 2000 + 3) ≤ 1000 * (4 * 2000 + 3) := Nat.mul_le_mul_right _ hrw
  omega

set_option maxRecDepth 100000 in
set_option maxHeartbeats 8000000 in
theorem rText (rs : List Rw) (hl : rs.length ≤ 100000) (hr : ∀ r ∈ rs, r.w.length ≤ 1000 ∧ ∀ d ∈ r.w, d.t.size ≤ 2000) (v : Value) (w : World) (hv : RowsIn w v rs) :
    Calls Tryd.prog 22 #[v] w fun e W' => e = .returned (textV (textF (txR rs) [])) ∧ Below w.heap.size w W' := by
  obtain ⟨A, c, vs, rfl, _, hA, hvs, hin⟩ := hv
  obtain ⟨n, hn⟩ : ∃ n, n = rs.length := ⟨_, rfl⟩
  have HA := Lib.hid (And.intro hA (And.intro hin (And.intro hvs (And.intro hn hr))))
  rw [← hn] at hl ⊢
  clear hA hin hvs hn hr
  go_enter Tryd.func22, Tryd.ntmps22
  go_wp2_with (fail)
  go_loopw [4, 5] (fun ov iv wr => ∃ (k : Nat) (out : List UInt8), k ≤ n ∧ iv = .int .i64 (k : Int) ∧ ov = .string (mkB out) ∧ TAt rs k out ∧ Below w.heap.size w wr) (fun _ iv _ => n - (intOf iv).toNat)
  case atStart => exact ⟨0, [], Nat.zero_le _, rfl, rfl, TAt.start rs, Below.refl _ _⟩
  case round =>
    obtain ⟨k, out, hk, rfl, rfl, hat, hbel⟩ := hrel
    have hol := hat.2.1
    have m0 : (mkB out).size = out.length := mkB_size _
    by_cases hlt : k < n
    · have hii : (k : Int) < n := by omega
      obtain ⟨r, hr⟩ : ∃ r, rs[k]? = some r := ⟨_, List.getElem?_eq_getElem (by rw [← HA.out.2.2.2.1]; exact hlt)⟩
      obtain ⟨u, hu⟩ : ∃ u, vs[k]? = some u := ⟨_, List.getElem?_eq_getElem (by rw [HA.out.2.2.1, ← HA.out.2.2.2.1]; exact hlt)⟩
      obtain ⟨ab, ao, rfl, hab, c0, c1⟩ := cells_rw (HA.out.1.below hbel) hr hu
      have hwi := (HA.out.2.1 k r u hr hu).below hbel
      obtain ⟨B, d, rfl⟩ := row_val hwi
      obtain ⟨hrw, hrd⟩ := HA.out.2.2.2.2 r (List.mem_of_getElem? hr)
      by_cases hw0 : r.w = []
      · have hrl : ((r.w.length : Nat) : Int) = 0 := by rw [hw0]; rfl
        have F := Lib.hid (And.intro (hat.noW hr hw0) hbel)
        clear hat hbel hr hu hwi hrd hw0
        go_wp2_with (fail)
        go_ret2
        exact ⟨by rw [F.out.1]; rfl, F.out.2⟩
      · have hrp := List.length_pos_iff.2 hw0
        have hr0 : ((r.w.length : Int) == 0) = false := beq_eq_false_iff_ne.2 (by omega)
        have hlb := fun j => line_bound hrw hrd j
        have F := Lib.hid (And.intro hat (And.intro hbel (And.intro hr (And.intro hw0 (And.intro hrd (And.intro hwi hlb))))))
        clear hat hbel hr hu hwi hw0 hrd hlb
        go_wp2_with (fail)
        go_loopw [7, 8] (fun lv jv wx => ∃ j : Nat, j ≤ r.w.length ∧ jv = .int .i64 (j : Int) ∧ lv = .string (mkB (preT r j)) ∧ Below wr.heap.size wr wx) (fun _ jv _ => r.w.length - (intOf jv).toNat)
        case atStart => exact ⟨0, Nat.zero_le _, rfl, by rw [preT_zero]; rfl, Below.refl _ _⟩
        case round =>
          obtain ⟨j, hj, rfl, rfl, hbx⟩ := hrel
          have m1 : (mkB (preT r j)).size = (preT r j).length := mkB_size _
          have m2 := F.out.2.2.2.2.2.2 j
          by_cases hjl : j < r.w.length
          · have hji : (j : Int) < r.w.length := by omega
            obtain ⟨q, hq⟩ : ∃ q, r.w[j]? = some q := ⟨_, List.getElem?_eq_getElem hjl⟩
            obtain ⟨B2, d2, he, _, hcB⟩ := F.out.2.2.2.2.2.1.below hbx
            cases he
            obtain ⟨bb, bo, rfl, hbb, e0, e1, e2⟩ := cells_wd hcB hq
            have hqs := F.out.2.2.2.2.1 q (List.mem_of_getElem? hq)
            have hwl := wrW_len q.t.data.toList
            rw [size_data] at hwl
            have m3 : (mkB (wrW q.t.data.toList)).size = (wrW q.t.data.toList).length := mkB_size _
            obtain ⟨x, hx⟩ : ∃ x, x = wrW q.t.data.toList := ⟨_, rfl⟩
            obtain ⟨l, hll⟩ : ∃ l, l = preT r j := ⟨_, rfl⟩
            have hcall := fun W => rWrite q.t (by omega) W
            rw [← hx] at hwl m3 hcall
            rw [← hll] at m1 m2
            rw [← hll]
            have hxl : x.length ≤ 10000 := by omega
            have q0 : ¬ 9223372036854775807 < l.length + 1 + x.length := by omega
            have q1 : ¬ 9223372036854775807 < l.length + x.length := by omega
            by_cases hj0 : 0 < j
            · have hji0 : (0 : Int) < j := by omega
              have hnx : preT r (j + 1) = l ++ 32 :: x := by rw [preT_next hj0 hq, hx, hll]
              have k1 : mkB l ++ (⟨#[32]⟩ : ByteArray) = mkB (l ++ [32]) := mkB_append l [32]
              have k2 : mkB (l ++ [32]) ++ mkB x = mkB (l ++ 32 :: x) := by rw [mkB_append]; simp
              have m4 : (mkB (l ++ [32])).size = l.length + 1 := by rw [mkB_size]; simp
              have G := Lib.hid (And.intro hbx (And.intro hnx hcall))
              clear hbx hnx hcall hcB hq hqs hx hll
              go_wp2_with (fail)
              refine (G.out.2.2 _).mono ?_
              rintro e W1 ⟨rfl, g1⟩
              have G1 := Lib.hid (gr_call G.out.1 g1)
              clear g1
              go_wp2_with (fail)
              go_roundw
              case rel => exact ⟨j + 1, by omega, rfl, by rw [G.out.2.1], G1.out⟩
              case measure => simp [intOf]; omega
            · have hj1 : j = 0 := by omega
              subst hj1
              simp only [Nat.zero_mul, Nat.add_zero] at e0 e1 e2
              have hnx : preT r (0 + 1) = x := by rw [show 0 + 1 = 1 from rfl, preT_first hq, hx]
              rw [preT_zero] at hll
              subst hll
              have k2 : (mkB []) ++ mkB x = mkB x := by rw [mkB_append]; rfl
              have G := Lib.hid (And.intro hbx (And.intro hnx hcall))
              clear hbx hnx hcall hcB hq hqs hx
              go_wp2_with (fail)
              refine (G.out.2.2 _).mono ?_
              rintro e W1 ⟨rfl, g1⟩
              have G1 := Lib.hid (gr_call G.out.1 g1)
              clear g1
              go_wp2_with (fail)
              go_roundw
              case rel => exact ⟨1, by omega, rfl, by rw [G.out.2.1], G1.out⟩
              case measure => simp [intOf]; omega
          · have hpa := preT_all r hjl
            rw [hpa] at m1 m2 ⊢
            obtain ⟨l, hll⟩ : ∃ l, l = lineW (r.w.map (·.t)) := ⟨_, rfl⟩
            have h4 := F.out.1.long F.out.2.2.1 F.out.2.2.2.1
            have h5 := F.out.1.line F.out.2.2.1 F.out.2.2.2.1
            rw [← hll] at m1 m2 h4 h5 ⊢
            have hB := gr_call F.out.2.1 hbx
            have hji : ¬ (j : Int) < r.w.length := by omega
            by_cases hbig : 1000 < l.length ∨ 20000 < out.length + l.length + 1
            · have G := Lib.hid (And.intro (h4 hbig) hB)
              clear h4 h5 hbx hB hll hpa
              rcases (show (1000 : Int) < l.length ∨ (¬ (1000 : Int) < l.length ∧ (20000 : Int) < (out.length : Int) + l.length + 1) by omega) with h | ⟨h, h'⟩
              all_goals
                clear hbig
                go_wp2_with (fail)
                go_ret2
                exact ⟨by rw [G.out.1]; rfl, G.out.2⟩
            · have h6 : ¬ (1000 : Int) < l.length := by omega
              have h7 : ¬ (20000 : Int) < (out.length : Int) + l.length + 1 := by omega
              have k1 : mkB out ++ mkB l = mkB (out ++ l) := mkB_append _ _
              have k2 : mkB (out ++ l) ++ (⟨#[10]⟩ : ByteArray) = mkB (out ++ l ++ [10]) := mkB_append _ [10]
              have m4 : (mkB (out ++ l)).size = out.length + l.length := by rw [mkB_size]; simp
              have G := Lib.hid (And.intro (h5 hbig) hB)
              clear h4 h5 hbx hB hll hpa hbig
              go_wp2_with (fail)
              go_roundw
              case rel => exact ⟨k + 1, out ++ l ++ [10], by omega, rfl, by rw [List.append_assoc], G.out.1, G.out.2⟩
              case measure => simp [intOf]; omega
    · have hii : ¬ (k : Int) < n := by omega
      have F := Lib.hid (And.intro (hat.over (by rw [← HA.out.2.2.2.1]; exact hlt)) hbel)
      clear hat hbel
      go_wp2_with (fail)
      go_ret2
      exact ⟨by rw [F.out.1]; rfl, F.out.2⟩
end Go.Proofs.YtpicenopiigfpaaDoor
