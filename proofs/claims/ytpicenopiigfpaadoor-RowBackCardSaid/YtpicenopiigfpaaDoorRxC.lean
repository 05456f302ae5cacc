/-
  row.Text, walked; conditions: how many rows, words and bytes there are.
-/
import Derived.Test.YtpicenopiigfpaaDoorRxA
import Derived.Test.YtpicenopiigfpaaDoorRxB
import Derived.Test.YtpicenopiigfpaaDoorRwL
import Derived.Test.YtpicenopiigfpaaDoorRwK
namespace Go.Proofs.YtpicenopiigfpaaDoor
open Go.RowKit
set_option linter.unusedVariables false
set_option linter.unusedSimpArgs false

/-- What Text hands back. -/
def textV (r : Option (List UInt8) × Int) : Value := .tuple #[.string (mkB (r.1.getD [])), .int .i64 r.2]
theorem row_val {W : World} {v : Value} {ws : List Wd} (h : WordsIn W v ws) : ∃ A c, v = .slice A ws.length c := by
  obtain ⟨A, c, h, _⟩ := h
  exact ⟨A, c, h⟩

set_option maxRecDepth 100000 in
set_option maxHeartbeats 8000000 in
theorem wText (rs : List Rw) (hl : rs.length ≤ 100000) (hr : ∀ r ∈ rs, r.w.length ≤ 100000 ∧ ∀ d ∈ r.w, d.t.size ≤ 100000) (v : Value) (w : World) (hv : RowsIn w v rs) :
    Calls Tryd.prog 21 #[v] w fun e W' => e = .returned (textV (textF (txR rs) [])) ∧ Below w.heap.size w W' := by
  obtain ⟨A, c, vs, rfl, _, hA, hvs, hin⟩ := hv
  obtain ⟨n, hn⟩ : ∃ n, n = rs.length := ⟨_, rfl⟩
  have HA := Lib.hid (And.intro hA (And.intro hin (And.intro hvs (And.intro hn hr))))
  rw [← hn] at hl ⊢
  clear hA hin hvs hn hr
  go_enter Tryd.func21, Tryd.ntmps21
  go_wp2_with (fail)
  go_loopg [12] n (fun m iv wr => ∃ (k : Nat) (out : List UInt8), m = n - k ∧ k ≤ n ∧ iv = .int .i64 (k : Int) ∧ TAt rs k out ∧ Bld w.heap.size w.heap.size (Lib.byteCells out) wr ∧ Below w.heap.size w wr)
  case atStart => exact ⟨0, [], rfl, Nat.zero_le _, rfl, TAt.start rs, Bld.fresh (Blk.new _ _ _), gr_alloc (Below.refl _ _) _⟩
  case round =>
    obtain ⟨k, out, hm, hk, rfl, hat, hbld, hbel⟩ := hrel
    have hWz := hbel.size
    have hol := hat.2.1
    by_cases hlt : k < n
    · obtain ⟨r, hr⟩ : ∃ r, rs[k]? = some r := ⟨_, List.getElem?_eq_getElem (by rw [← HA.out.2.2.2.1]; exact hlt)⟩
      obtain ⟨u, hu⟩ : ∃ u, vs[k]? = some u := ⟨_, List.getElem?_eq_getElem (by rw [HA.out.2.2.1, ← HA.out.2.2.2.1]; exact hlt)⟩
      obtain ⟨ab, ao, rfl, hab, c0, c1⟩ := cells_rw (HA.out.1.below hbel) hr hu
      have hwi := HA.out.2.1 k r u hr hu
      obtain ⟨B, d, rfl⟩ := row_val hwi
      obtain ⟨hrw, hrd⟩ := HA.out.2.2.2.2 r (List.mem_of_getElem? hr)
      by_cases hw0 : r.w = []
      · have hrl : ((r.w.length : Nat) : Int) = 0 := by rw [hw0]; rfl
        have F := Lib.hid (And.intro (hat.noW hr hw0) hbel)
        clear hm hat hbel hbld hr hu hwi hrd hw0
        go_wp2_with (fail)
        go_ret2
        exact ⟨by rw [F.out.1]; rfl, by first | exact F.out.2 | exact gr_alloc F.out.2 _⟩
      · have hr0 : ((r.w.length : Int) == 0) = false := beq_eq_false_iff_ne.2 (by have := List.length_pos_iff.2 hw0; omega)
        have F := Lib.hid (And.intro hm (And.intro hat (And.intro hbel (And.intro hbld (And.intro hr (And.intro hw0 (And.intro hrd hwi)))))))
        clear hm hat hbel hbld hr hu hwi hw0 hrd
        go_wp2_with (fail)
        have hla := F.out.2.2.2.1.alloc (.cells #[.int .i64 (r.a : Int), .slice B r.w.length d] 39)
        refine (Bld_Len _ _ out _ hla (Nat.le_refl _)).mono ?_
        rintro e W1 ⟨rfl, rfl⟩
        clear hla
        go_wp2_with (fail)
        go_loopg [24] r.w.length (fun m jv wx => ∃ j : Nat, m = r.w.length - j ∧ j ≤ r.w.length ∧ jv = .int .i64 (j : Int) ∧ Bld w.heap.size w.heap.size (Lib.byteCells (out ++ preT r j)) wx ∧ Below w.heap.size w wx)
        case atStart => exact ⟨0, rfl, Nat.zero_le _, rfl, by rw [preT_zero, List.append_nil]; exact F.out.2.2.2.1.alloc _, gr_alloc F.out.2.2.1 _⟩
        case round =>
          obtain ⟨j, hm, hj, rfl, hbx, hBx⟩ := hrel
          have hWx := hBx.size
          have hpl := preT_len 100000 j F.out.2.2.2.2.2.2.1
          have hpm : r.w.length * (4 * 100000 + 3) ≤ 100000 * (4 * 100000 + 3) := Nat.mul_le_mul_right _ hrw
          have hl1 : (out ++ preT r j).length ≤ 50000000000 := by rw [List.length_append]; omega
          clear hpl hpm
          by_cases hjl : j < r.w.length
          · obtain ⟨q, hq⟩ : ∃ q, r.w[j]? = some q := ⟨_, List.getElem?_eq_getElem hjl⟩
            obtain ⟨B2, d2, he, _, hcB⟩ := F.out.2.2.2.2.2.2.2.below hBx
            cases he
            obtain ⟨bb, bo, rfl, hbb, e0, e1, e2⟩ := cells_wd hcB hq
            have hqs := F.out.2.2.2.2.2.2.1 q (List.mem_of_getElem? hq)
            have hwl := wrW_len q.t.data.toList
            rw [size_data] at hwl
            obtain ⟨x, hx⟩ : ∃ x, x = wrW q.t.data.toList := ⟨_, rfl⟩
            obtain ⟨l, hll⟩ : ∃ l, l = out ++ preT r j := ⟨_, rfl⟩
            have hcall := fun W => wWrite q.t W (by omega)
            rw [← hx] at hwl hcall
            rw [← hll] at hbx hl1
            have hxl : x.length ≤ 400002 := by omega
            have hbl := hbx.lt
            have hB1 := hbx.alloc (.cells #[.int .i64 (q.a : Int), .string q.t, .bool q.q] 41)
            have hq1 := Blk.new wr 41 #[.int .i64 (q.a : Int), .string q.t, .bool q.q]
            have hBX := gr_alloc hBx (.cells #[.int .i64 (q.a : Int), .string q.t, .bool q.q] 41)
            by_cases hj0 : 0 < j
            · have hji0 : (0 : Int) < j := by omega
              have hnx : out ++ preT r (j + 1) = (l ++ [32]) ++ x := by rw [preT_next hj0 hq, hx, hll]; simp
              have hwb := Bld_WriteByte w.heap.size w.heap.size (Lib.byteCells l) 32 _ hB1 (by simp [Lib.byteCells]; omega) hBX.size
              have G := Lib.hid (And.intro hm (And.intro hBX (And.intro hnx (And.intro hcall (And.intro hwb hq1)))))
              clear hm hBX hnx hcall hwb hq1 hB1 hBx hbx hcB hq hqs hx hll
              go_wp2_with (fail)
              refine G.out.2.2.2.2.1.mono ?_
              rintro e W1 ⟨rfl, b1, x1, o1⟩
              have hb1 : Bld w.heap.size w.heap.size (Lib.byteCells (l ++ [32])) W1 := by rw [Lib.byteCells_append]; exact b1
              have q1 := o1 _ _ _ G.out.2.2.2.2.2 (by omega) (by decide)
              have t1 := q1.cell' (i := 1) (v := .string q.t) rfl
              have zq := q1.lt
              have hBel1 := G.out.2.1.trans (x1.below (Nat.le_refl _) (Nat.le_refl _))
              have G1 := Lib.hid (And.intro hb1 hBel1)
              clear b1 x1 o1 q1 hb1 hBel1
              go_wp2_with (fail)
              refine (G.out.2.2.2.1 _).mono ?_
              rintro e W2 ⟨rfl, g2⟩
              have hb2 := G1.out.1.below g2
              have hBel2 := gr_call G1.out.2 g2
              have hws := Bld_WriteString w.heap.size w.heap.size (l ++ [32]) x _ hb2 (by rw [List.length_append, List.length_singleton]; omega) hBel2.size
              have G2 := Lib.hid (And.intro hws hBel2)
              clear hb2 hBel2 hws g2 t1 zq
              go_wp2_with (fail)
              refine G2.out.1.mono ?_
              rintro e W3 ⟨rfl, b3, x3, o3⟩
              have G3 := Lib.hid (And.intro b3 (G2.out.2.trans (x3.below (Nat.le_refl _) (Nat.le_refl _))))
              clear b3 x3 o3
              go_wp2_with (fail)
              go_roundg (r.w.length - (j + 1))
              case measure => have := G.out.1; omega
              case rel => exact ⟨j + 1, rfl, hjl, rfl, by rw [G.out.2.2.1]; exact G3.out.1, G3.out.2⟩
            · have hj1 : j = 0 := by omega
              subst hj1
              simp only [Nat.zero_mul, Nat.add_zero] at e0 e1 e2
              clear hj0
              have hnx : out ++ preT r (0 + 1) = l ++ x := by rw [hll, preT_zero, show 0 + 1 = 1 from rfl, preT_first hq, hx]; simp
              have hws := fun W h1 h2 => Bld_WriteString w.heap.size w.heap.size l x W h1 (by omega) h2
              have G := Lib.hid (And.intro hm (And.intro hBX (And.intro hnx (And.intro hcall (And.intro hB1 hws)))))
              clear hm hBX hnx hcall hws hq1 hB1 hBx hbx hcB hq hqs hx hll
              go_wp2_with (fail)
              refine (G.out.2.2.2.1 _).mono ?_
              rintro e W2 ⟨rfl, g2⟩
              have hb2 := G.out.2.2.2.2.1.below g2
              have hBel2 := gr_call G.out.2.1 g2
              have G2 := Lib.hid (And.intro (G.out.2.2.2.2.2 _ hb2 hBel2.size) hBel2)
              clear hb2 hBel2 g2
              go_wp2_with (fail)
              refine G2.out.1.mono ?_
              rintro e W3 ⟨rfl, b3, x3, o3⟩
              have G3 := Lib.hid (And.intro b3 (G2.out.2.trans (x3.below (Nat.le_refl _) (Nat.le_refl _))))
              clear b3 x3 o3
              go_wp2_with (fail)
              go_roundg (r.w.length - (0 + 1))
              case measure => have := G.out.1; omega
              case rel => exact ⟨1, rfl, hjl, rfl, by have := G3.out.1; rw [← G.out.2.2.1] at this; exact this, G3.out.2⟩
          · have hpa := preT_all r hjl
            obtain ⟨l, hll⟩ : ∃ l, l = lineW (r.w.map (·.t)) := ⟨_, rfl⟩
            rw [hpa, ← hll] at hbx hl1
            have h4 := F.out.2.1.long F.out.2.2.2.2.1 F.out.2.2.2.2.2.1
            have h5 := F.out.2.1.line F.out.2.2.2.2.1 F.out.2.2.2.2.2.1
            rw [← hll] at h4 h5
            rw [List.length_append] at hl1
            have hln : (out ++ l).length = out.length + l.length := List.length_append
            have hlen := Bld_Len w.heap.size w.heap.size (out ++ l) wr hbx (Nat.le_refl _)
            have hwb := Bld_WriteByte w.heap.size w.heap.size (Lib.byteCells (out ++ l)) 10 wr hbx (by simp [Lib.byteCells]; omega) hWx
            rw [hln] at hlen
            by_cases hbig : 1000 < l.length ∨ 20000 < out.length + l.length + 1
            · have G := Lib.hid (And.intro (h4 hbig) (And.intro hBx hlen))
              clear h4 h5 hBx hbx hlen hwb hll hpa hm hln
              rcases (show (1000 : Int) < l.length ∨ (¬ (1000 : Int) < l.length ∧ (20000 : Int) < (out.length : Int) + l.length + 1) by omega) with h | ⟨h, h'⟩
              all_goals
                clear hbig
                go_wp2_with (go_at_call 36; refine G.out.2.2.mono ?_; rintro e w' ⟨rfl, rfl⟩)
                go_ret2
                exact ⟨by rw [G.out.1]; rfl, G.out.2.1⟩
            · have h6 : ¬ (1000 : Int) < l.length := by omega
              have h7 : ¬ (20000 : Int) < (out.length : Int) + l.length + 1 := by omega
              have G := Lib.hid (And.intro (h5 hbig) (And.intro hBx (And.intro hlen hwb)))
              clear h4 h5 hBx hbx hlen hwb hll hpa hm hln hbig
              go_wp2_with (go_at_call 36; refine G.out.2.2.1.mono ?_; rintro e w' ⟨rfl, rfl⟩)
              refine G.out.2.2.2.mono ?_
              rintro e W1 ⟨rfl, b1, x1, o1⟩
              have hb1 : Bld w.heap.size w.heap.size (Lib.byteCells (out ++ l ++ [10])) W1 := by rw [Lib.byteCells_append]; exact b1
              have G1 := Lib.hid (And.intro hb1 (G.out.2.1.trans (x1.below (Nat.le_refl _) (Nat.le_refl _))))
              clear hb1 b1 x1 o1
              go_wp2_with (fail)
              go_roundg (n - (k + 1))
              case measure => have := F.out.1; omega
              case rel => exact ⟨k + 1, out ++ l ++ [10], rfl, by omega, rfl, G.out.1, G1.out.1, G1.out.2⟩
    · have F := Lib.hid (And.intro (hat.over (by rw [← HA.out.2.2.2.1]; exact hlt)) (And.intro hbel hbld))
      clear hm hat hbel hbld
      go_wp2_with (fail)
      refine (Bld_String _ _ out _ F.out.2.2 (Nat.le_refl _) hWz).mono ?_
      rintro e W1 ⟨rfl, h1⟩
      have G := Lib.hid (F.out.2.1.trans h1)
      clear h1
      go_wp2_with (fail)
      go_ret2
      exact ⟨by rw [F.out.1]; rfl, G.out⟩
end Go.Proofs.YtpicenopiigfpaaDoor
