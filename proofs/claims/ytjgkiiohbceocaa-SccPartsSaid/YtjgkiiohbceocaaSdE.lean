/-
  scc.Path, walked; conditions: at most 1000000 edges.
-/
import Derived.Test.YtjgkiiohbceocaaSdD
namespace Go.Proofs.Ytjgkiiohbceocaa
open Go.RowKit
set_option linter.unusedVariables false
set_option linter.unusedSimpArgs false

theorem new_nat (W : World) (a : Nat) : OwnN (W.alloc (.cells #[.int .i64 (a : Int)] 3)) W.heap.size (.slice (some ⟨W.heap.size, 0, none⟩) 1 1) [a] :=
  ⟨rfl, .inr ⟨W.heap.size, 1, #[.int .i64 (a : Int)], rfl, Nat.le_refl _, heap_alloc_new W _, Nat.le_refl _, by decide, rfl, by simp [natC]⟩⟩

set_option maxRecDepth 100000 in
set_option maxHeartbeats 8000000 in
theorem path_ok (m : Nat) (hm : m ≤ 64) (l : List Edg) (hl : l.length ≤ 1000000) (hv : ∀ e ∈ l, okEd m e) (he : (chkG m l).1 = 0) (a b : Nat) (ha : a < m) (hb : b < m) (hr : rea m (relE l) a b = true) (A : Option Addr) (c : Nat) (w : World) (hA : Cells w A 2 l.length (edAt l)) :
    Calls Try.prog 15 #[.agg #[.int .i64 (m : Int), .slice A l.length c], .int .i64 (a : Int), .int .i64 (b : Int)] w fun e w' => ∃ v, e = .returned (.tuple #[v, .int .i64 0]) ∧ NatsAt w' v (pathV m (relE l) a b) ∧ Below w.heap.size w w' := by
  have b0 := gr_alloc (Below.refl w.heap.size w) (.cells #[.int .i64 (m : Int), .slice A l.length c] 24)
  have hA0 := hA.below b0
  have hw := relE_within hv
  have hmd := made_code m hm l hl hv he A c _ hA0
  obtain ⟨E, hE⟩ : ∃ E, E = relE l := ⟨_, rfl⟩
  have hmd' : Calls Try.prog 43 #[.agg #[.int .i64 (m : Int), .slice A l.length c]] (w.alloc (.cells #[.int .i64 (m : Int), .slice A l.length c] 24)) fun e w' => ∃ bg bl pv kv, e = .returned (.tuple #[.pointer (some ⟨bg, 0, none⟩), .int .i64 0]) ∧ GrOk w' bg bl m E pv kv ∧ Below (w.alloc (.cells #[.int .i64 (m : Int), .slice A l.length c] 24)).heap.size (w.alloc (.cells #[.int .i64 (m : Int), .slice A l.length c] 24)) w' := by
    refine hmd.mono ?_
    rintro e w' ⟨bg, bl, pv, kv, h1, h2, h3⟩
    exact ⟨bg, bl, pv, kv, h1, by rw [hE]; exact h2.gr, h3⟩
  rw [← hE] at hw hr ⊢
  obtain ⟨ln, hln⟩ : ∃ ln, ln = l.length := ⟨_, rfl⟩
  rw [← hln] at hmd' b0 ⊢
  have hfar := (far_iff hw).1 hr
  have hbd := farS_bound hw (t := b) (i := a) (N := m)
  have hmk := fun W => mk_vec (t := 25) (z := .int .i64 0) Try.underlying25 infoInt rfl (by decide) m (by omega) W
  have H := Lib.hid (And.intro b0 (And.intro hmd' (And.intro hw (And.intro hr (And.intro hfar hbd)))))
  clear b0 hmd hmd' hA0 hA hE hln hl he hv hw hr hfar hbd
  have hk1 : ¬ min (a : Int) (b : Int) < 0 := by omega
  have hk2 : ¬ (m : Int) ≤ max (a : Int) (b : Int) := by omega
  have hk3 : max (a : Int) (b : Int) < (m : Int) := by omega
  have ha6 : a < 64 := by omega
  have hb6 : b < 64 := by omega
  have hb7 : (b : Int) < 64 := by omega
  have ha7 : (a : Int) < (m : Int) := by omega
  have wb : IntKind.u64.wrap (b : Int) = (b : Int) := IntWalk.u64_in _ (by omega)
  go_enter Try.func15, Try.ntmps15
  go_wp2_with (fail)
  refine H.out.2.1.mono ?_
  rintro e W1 ⟨bg, bl, pv, kv, rfl, hg, h2⟩
  have c0 := hg.gr.cell' (i := 0) rfl
  have c1 := hg.gr.cell' (i := 1) rfl
  have lg := hg.gr.lt
  have hgo := goes_code bl 79 _ (rea m E) a b W1 hg.ln (lnkC_reach E (rea m E) ha6) ha6 hb6
  rw [H.out.2.2.2.1] at hgo
  have D := Lib.hid (And.intro hg (And.intro (gr_call H.out.1 h2) hgo))
  clear hg h2 hgo
  go_wp2_with (fail)
  refine D.out.2.2.mono ?_
  rintro e W2 ⟨rfl, rfl⟩
  have hm1 := hmk W1
  have kL := Blk.new W1 3 (numC m fun _ => 0)
  have hbL := gr_alloc (Below.refl W1.heap.size W1) (.cells (numC m fun _ => 0) 3)
  have c1L := (D.out.1.gr.call hbL).cell' (i := 1) rfl
  have lgL := (D.out.1.gr.call hbL).lt
  have N := Lib.hid (And.intro kL hbL)
  clear kL hbL hmk
  go_wp2_with (fail)
  have h2b : 2 ^ b < 18446744073709551616 := Nat.lt_of_lt_of_le (Nat.pow_lt_pow_right (by decide) hb6) (by decide)
  have hw2 : IntKind.u64.wrap (2 ^ b) = ((pW (fun k => wlk m E 0 k b) : Nat) : Int) := by
    rw [show (2 : Int) ^ b = ((2 ^ b : Nat) : Int) by simp, wrap_nat h2b, ← pW_one hb6]
    rfl
  rw [hw2]
  clear hw2 h2b
  go_loopg [12, 11] m (fun q iv sv wr => ∃ d : Nat, q = m - d ∧ d ≤ m ∧ iv = .int .i64 ((d + 1 : Nat) : Int) ∧ sv = .int .u64 ((pW (fun k => wlk m E d k b) : Nat) : Int) ∧ Below W1.heap.size W1 wr ∧ Blk wr W1.heap.size 3 (numC m (farS m E b d)))
  case atStart => exact ⟨0, rfl, Nat.zero_le _, rfl, rfl, N.out.2, N.out.1⟩
  case round =>
    obtain ⟨d, hq, hd, rfl, rfl, hbel, hfr⟩ := hrel
    have hgw := D.out.1.below hbel D.out.1.gr.lt D.out.1.ln.lt
    have c1' := hgw.gr.cell' (i := 1) rfl
    have lg' := hgw.gr.lt
    by_cases hdm : d < m
    · have hd1 : ((d + 1 : Nat) : Int) ≤ (m : Int) := by omega
      have wd : IntKind.i64.wrap (((d + 1 : Nat) : Int) + 1) = ((d + 1 + 1 : Nat) : Int) := (IntWalk.i64_in _ (by omega)).trans (by simp)
      obtain ⟨D1, hD1⟩ : ∃ D1, D1 = ((d + 1 : Nat) : Int) := ⟨_, rfl⟩
      obtain ⟨P, hP⟩ : ∃ P, P = pW (fun k => wlk m E d k b) := ⟨_, rfl⟩
      have hPl : P < 18446744073709551616 := by rw [hP]; exact pW_lt _
      have hP0 : 0 ≤ (P : Int) := by omega
      have hP1 : (P : Int) < 18446744073709551616 := by omega
      rw [← hD1] at hd1 wd ⊢
      rw [← hP]
      have B := Lib.hid (And.intro hq (And.intro hD1 (And.intro hP (And.intro hbel hfr))))
      clear hq hbel hfr hgw hD1 hP hPl
      go_wp2_with (fail)
      go_loopg [72, 13] m (fun q iv nv wr => ∃ i : Nat, q = m - i ∧ i ≤ m ∧ iv = .int .i64 (i : Int) ∧ nv = .int .u64 ((pW (nxP m E b d i) : Nat) : Int) ∧ Below W1.heap.size W1 wr ∧ Blk wr W1.heap.size 3 (numC m (frT m E b d i)))
      case atStart =>
        refine ⟨0, rfl, Nat.zero_le _, rfl, by rw [nxP_zero]; rfl, B.out.2.2.2.1, ?_⟩
        rw [numC_congr (f := frT m E b d 0) (g := farS m E b d) (fun k _ => (frT_zero m E b d k).symm)]
        exact B.out.2.2.2.2
      case round =>
        obtain ⟨i, hq, hi, rfl, rfl, hbel, hfr⟩ := hrel
        by_cases him : i < m
        · have him' : (i : Int) < (m : Int) := by omega
          have hi6 : i < 64 := by omega
          have hi7 : (i : Int) < 64 := by omega
          have wi : IntKind.u64.wrap (i : Int) = (i : Int) := IntWalk.u64_in _ (by omega)
          have hgw := D.out.1.below hbel D.out.1.gr.lt D.out.1.ln.lt
          have d0 := hgw.gr.cell' (i := 0) rfl
          have ldg := hgw.gr.lt
          have cx := hgw.ln.cell' (lnkC_next E (rea m E) hi6)
          have xl := hgw.ln.lt
          have hat := and_test hm H.out.2.2.1 i (fun k => wlk m E d k b)
          rw [← B.out.2.2.1, show ((List.range m).any fun k => E i k && wlk m E d k b) = wlk m E (d + 1) i b from rfl] at hat
          have cf := hfr.cell' (vecC_at (fun k => .int .i64 ((frT m E b d i k : Nat) : Int)) him)
          rw [frT_at] at cf
          have ff := hfr.frozen i
          have lf := hfr.lt
          obtain ⟨X, hX⟩ : ∃ X, X = rowW E i := ⟨_, rfl⟩
          have hXl : X < 18446744073709551616 := by rw [hX]; exact rowW_lt _ _
          have hX0 : 0 ≤ (X : Int) := by omega
          have hX1 : (X : Int) < 18446744073709551616 := by omega
          rw [← hX] at cx hat
          obtain ⟨Nx, hNx⟩ : ∃ Nx, Nx = pW (nxP m E b d i) := ⟨_, rfl⟩
          have hNl : Nx < 18446744073709551616 := by rw [hNx]; exact pW_lt _
          have hN0 : 0 ≤ (Nx : Int) := by omega
          have hN1 : (Nx : Int) < 18446744073709551616 := by omega
          rw [← hNx]
          cases hk : wlk m E (d + 1) i b with
          | true =>
            rw [hk] at hat
            have hnh := nxP_hit (n := m) (E := E) (t := b) (d := d) hi6 hk
            rw [← hNx] at hnh
            have h2i : 2 ^ i < 18446744073709551616 := Nat.lt_of_lt_of_le (Nat.pow_lt_pow_right (by decide) hi6) (by decide)
            have hor : bits .or .u64 (Nx : Int) (IntKind.u64.wrap (2 ^ i)) = ((pW (nxP m E b d (i + 1)) : Nat) : Int) := by
              rw [show (2 : Int) ^ i = ((2 ^ i : Nat) : Int) by simp, wrap_nat h2i, u64_or_nat _ _ hNl h2i, hnh]
            by_cases h0 : farS m E b d i = 0
            · have hnew := frT_new hk h0
              rw [h0] at cf
              have F := Lib.hid (And.intro hor (And.intro hnew (And.intro hbel (And.intro hfr hq))))
              clear hor hnew hbel hfr hq hgw hk hX hNx hXl hNl hnh h2i h0
              go_wp2_with (fail)
              go_roundg (m - (i + 1))
              case measure => have := F.out.2.2.2.2; omega
              case rel =>
                have hbb := gr_set F.out.2.2.1 (p := ⟨W1.heap.size, i, none⟩) (Nat.le_refl _) (.int .i64 D1)
                refine ⟨i + 1, rfl, him, by simp, by rw [F.out.1], hbb, ?_⟩
                rw [B.out.2.1]
                rw [← numC_set (f := frT m E b d i) (g := frT m E b d (i + 1)) him F.out.2.1 (fun k' _ hk' => frT_far hk')]
                exact F.out.2.2.2.1.set_ i (.int .i64 ((d + 1 : Nat) : Int))
            · have hold := fun k => frT_old (n := m) (E := E) (t := b) (d := d) (i := i) (k := k) (.inr h0)
              obtain ⟨y, hy⟩ : ∃ y, y = farS m E b d i := ⟨_, rfl⟩
              rw [← hy] at cf h0
              have hy0 : ((y : Int) == 0) = false := by simp; omega
              have F := Lib.hid (And.intro hor (And.intro hold (And.intro hbel (And.intro hfr hq))))
              clear hor hold hbel hfr hq hgw hk hX hNx hXl hNl hnh h2i hy
              go_wp2_with (fail)
              go_roundg (m - (i + 1))
              case measure => have := F.out.2.2.2.2; omega
              case rel =>
                refine ⟨i + 1, rfl, him, by simp, by rw [F.out.1], F.out.2.2.1, ?_⟩
                rw [numC_congr (f := frT m E b d (i + 1)) (g := frT m E b d i) (fun k _ => (F.out.2.1 k).symm)]
                exact F.out.2.2.2.1
          | false =>
            rw [hk] at hat
            have hnm := nxP_miss (n := m) (E := E) (t := b) (d := d) hk
            have hold := fun k => frT_old (n := m) (E := E) (t := b) (d := d) (i := i) (k := k) (.inl hk)
            rw [← hNx] at hnm
            have F := Lib.hid (And.intro hnm (And.intro hold (And.intro hbel (And.intro hfr hq))))
            clear hnm hold hbel hfr hq hgw hk hX hNx hXl hNl
            go_wp2_with (fail)
            go_roundg (m - (i + 1))
            case measure => have := F.out.2.2.2.2; omega
            case rel =>
              refine ⟨i + 1, rfl, him, by simp, by rw [F.out.1], F.out.2.2.1, ?_⟩
              rw [numC_congr (f := frT m E b d (i + 1)) (g := frT m E b d i) (fun k _ => (F.out.2.1 k).symm)]
              exact F.out.2.2.2.1
        · have ei : i = m := by omega
          subst i
          have hall := nxP_all H.out.2.2.1 (t := b) (d := d)
          have F := Lib.hid (And.intro hbel (And.intro hfr (And.intro hq hall)))
          clear hbel hfr hq hall him
          go_wp2_with (fail)
          go_roundg (m - (d + 1))
          case measure => have := B.out.1; omega
          case rel =>
            refine ⟨d + 1, rfl, hdm, by simp, by rw [F.out.2.2.2], F.out.1, ?_⟩
            rw [numC_congr (f := farS m E b (d + 1)) (g := frT m E b d m) (fun k hk => frT_all hk)]
            exact F.out.2.1
    · have ed : d = m := by omega
      subst d
      rename World => W3
      have hd1 : ¬ ((m + 1 : Nat) : Int) ≤ (m : Int) := by omega
      have cf := hfr.cell' (vecC_at (fun k => .int .i64 ((farS m E b m k : Nat) : Int)) ha)
      have lf := hfr.lt
      obtain ⟨y, hy⟩ : ∃ y, y = farS m E b m a := ⟨_, rfl⟩
      rw [← hy] at cf
      have hy1 : 1 ≤ y := by have := H.out.2.2.2.2.1; omega
      have hy64 : y ≤ m := by rw [hy]; exact H.out.2.2.2.2.2
      have wy : IntKind.i64.wrap ((y : Int) - 1) = ((y - 1 : Nat) : Int) := (IntWalk.i64_in _ (by omega)).trans (by omega)
      obtain ⟨M1, hM1⟩ : ∃ M1, M1 = ((m + 1 : Nat) : Int) := ⟨_, rfl⟩
      obtain ⟨P, hP⟩ : ∃ P, P = pW (fun k => wlk m E m k b) := ⟨_, rfl⟩
      rw [← hM1] at hd1 ⊢
      rw [← hP]
      have hbel2 := gr_alloc hbel (.cells #[.int .i64 (a : Int)] 3)
      have hfr2 := hfr.alloc (.cells #[.int .i64 (a : Int)] 3)
      have cf2 := hfr2.cell' (vecC_at (fun k => .int .i64 ((farS m E b m k : Nat) : Int)) ha)
      rw [← hy] at cf2
      have lf2 := hfr2.lt
      have hown : OwnN (W3.alloc (.cells #[.int .i64 (a : Int)] 3)) W3.heap.size (.slice (some ⟨W3.heap.size, 0, none⟩) 1 1) ([a]) := new_nat W3 a
      have B := Lib.hid (And.intro hbel2 (And.intro hfr2 (And.intro hy (And.intro hown (And.intro hM1 (And.intro hbel hfr))))))
      clear hbel hfr hq hgw hdm hbel2 hfr2 hown hy hM1 hP
      go_wp2_with (fail)
      obtain ⟨F, hF⟩ : ∃ F, F = farS m E b m := ⟨_, rfl⟩
      have hV : pathV m E a b = a :: (gre m E F (y - 1) a ++ [b]) := by
        unfold pathV
        rw [hF, B.out.2.2.1]
      have B2 := Lib.hid (And.intro B.out.1 (And.intro (show Blk W3 W1.heap.size 3 (numC m F) by rw [hF]; exact B.out.2.2.2.2.2.2) (And.intro B.out.2.2.2.1 (And.intro hV B.out.2.2.2.2.2.1))))
      clear B hF hV hd1 cf cf2 lf2 c1' lg' wy
      have hm64 : (m : Int) ≤ 64 := by omega
      go_loopg [16, 15] (y - 1) (fun q dv ov wr => ∃ (d : Nat) (pre : List Nat), q = d ∧ d + pre.length ≤ y - 1 ∧ dv = .int .i64 (d : Int) ∧ Below W3.heap.size W3 wr ∧ OwnN wr W3.heap.size ov (a :: pre) ∧ gre m E F (y - 1) a = pre ++ gre m E F d (lastOf a pre) ∧ lastOf a pre < m)
      case atStart => exact ⟨y - 1, [], rfl, by simp, by first | rfl | (congr 1; omega), gr_alloc (Below.refl _ _) _, B2.out.2.2.1, rfl, ha⟩
      case round =>
        obtain ⟨d, pre, hq, hd, rfl, hbel, hown, hgr, hlt⟩ := hrel
        have hgw := D.out.1.below (gr_call B2.out.2.2.2.2 hbel) D.out.1.gr.lt D.out.1.ln.lt
        have hfr := B2.out.2.1.call hbel
        have hpl : pre.length ≤ 64 := by omega
        have bz := hbel.size
        cases d with
        | zero =>
          have hown2 := own_below hown (gr_alloc (Below.refl _ _) (.cells #[.int .i64 (b : Int)] 3)) (Nat.le_refl _)
          have hnc : (wr.alloc (.cells #[.int .i64 (b : Int)] 3)).cell? ⟨wr.heap.size, 0, none⟩ = some (.int .i64 (b : Int)) := (Blk.new wr 3 #[.int .i64 (b : Int)]).cell' rfl
          have G := Lib.hid (And.intro hbel (And.intro hgr (And.intro hown2 (And.intro hnc (show (a :: pre).length ≤ 1000000 by rw [List.length_cons]; omega)))))
          clear hbel hgr hown2 hown hgw hfr hpl hq hd hlt hnc
          have hz : ¬ ((0 : Nat) : Int) > 0 := by omega
          go_wp2_with (at_builtin; refine app_one rfl _ _ (t := 25) rfl W3.heap.size Try.underlying25 infoInt rfl (by decide) _ _ _ rfl G.out.2.2.1 wr.heap.size (.int .i64 (b : Int)) rfl G.out.2.2.2.1 rfl G.out.2.2.2.2 (by simp; omega) ?_)
          intro v' w2 hown' hgrow _
          have hown' : OwnN w2 W3.heap.size v' ((a :: pre) ++ [b]) := by
            unfold OwnN
            rw [natC_snoc, List.length_append]
            exact hown'
          have L := Lib.hid (And.intro hown' ((gr_alloc G.out.1 (.cells #[.int .i64 (b : Int)] 3)).grown hgrow (by simp; omega) (fun q hq => (G.out.2.2.1.lt q hq).1)))
          clear hown' hgrow
          go_wp2_with (fail)
          go_ret2
          refine ⟨_, rfl, ?_, gr_call (gr_call D.out.2.1 B2.out.2.2.2.2) L.out.2⟩
          rw [B2.out.2.2.2.1, G.out.2.1, show gre m E F 0 (lastOf a pre) = [] from rfl, List.append_nil]
          exact L.out.1.at_
        | succ d =>
          obtain ⟨at_, hat⟩ : ∃ x, x = lastOf a pre := ⟨_, rfl⟩
          have hlc := last_cons a pre
          rw [← hat] at hgr hlt hlc
          obtain ⟨g, cap, hov, hgB, hgl, hgc, _, _⟩ := own_cell hown (i := pre.length) (u := .int .i64 (at_ : Int)) (by unfold natC; rw [List.getElem?_map, hlc]; rfl)
          rw [List.length_cons] at hov
          subst hov
          obtain ⟨pl, hpl2⟩ : ∃ pl, pl = pre.length := ⟨_, rfl⟩
          rw [← hpl2] at hgc hpl ⊢
          rw [← hpl2] at hown
          have hpos : ((d + 1 : Nat) : Int) > 0 := by omega
          have wpl : IntKind.i64.wrap (((pl + 1 : Nat) : Int) - 1) = (pl : Int) := (IntWalk.i64_in _ (by omega)).trans (by simp)
          have wpl2 : IntKind.i64.wrap ((pl : Int) + 1 - 1) = (pl : Int) := (IntWalk.i64_in _ (by omega)).trans (by omega)
          have wdd : IntKind.i64.wrap (((d + 1 : Nat) : Int) - 1) = (d : Int) := (IntWalk.i64_in _ (by omega)).trans (by simp)
          obtain ⟨Dd, hDd⟩ : ∃ Dd, Dd = ((d + 1 : Nat) : Int) := ⟨_, rfl⟩
          rw [← hDd] at hpos wdd ⊢
          obtain ⟨pl1, hpl1⟩ : ∃ x, x = pl + 1 := ⟨_, rfl⟩
          rw [← hpl1] at wpl hown ⊢
          have hpp : (pl : Int) < (pl1 : Int) := by omega
          have c1' := hgw.gr.cell' (i := 1) rfl
          have c0' := hgw.gr.cell' (i := 0) rfl
          have lg' := hgw.gr.lt
          have hat6 : at_ < 64 := by omega
          have hat7 : (at_ : Int) < 64 := by omega
          have cx := hgw.ln.cell' (lnkC_next E (rea m E) hat6)
          have xl := hgw.ln.lt
          have hbt0 := fun (i : Nat) (hi : i < 64) => (show (bits .and .u64 ((rowW E at_ : Int) / 2 ^ i) 1 == 1) = E at_ i by rw [bit_test _ _ (rowW_lt _ _), rowW_bit _ _ _ hi])
          obtain ⟨X, hX⟩ : ∃ X, X = rowW E at_ := ⟨_, rfl⟩
          have hXl : X < 18446744073709551616 := by rw [hX]; exact rowW_lt _ _
          have hX0 : 0 ≤ (X : Int) := by omega
          have hX1 : (X : Int) < 18446744073709551616 := by omega
          rw [← hX] at cx hbt0
          have G := Lib.hid (And.intro hq (And.intro hd (And.intro hbel (And.intro hown (And.intro hgr (And.intro hlt (And.intro hgw (And.intro hfr (And.intro hbt0 (And.intro hpl2 (And.intro hDd (And.intro hpl1 hat))))))))))))
          clear hq hd hbel hown hgr hlt hgw hfr hbt0 hpl2 hDd hpl1 hat hlc hX hXl
          rename World => wo
          go_wp2_with (fail)
          go_loopg [124, 15] m (fun q iv sv wr => ∃ i : Nat, q = m - i ∧ i ≤ m ∧ iv = .int .i64 (i : Int) ∧ sv = .slice (some ⟨g, 0, none⟩) pl1 cap ∧ (∀ k, k < i → hitG E F at_ (d + 1) k = false) ∧ wo = wr)
          case atStart => exact ⟨0, rfl, Nat.zero_le _, rfl, rfl, fun k hk => absurd hk (Nat.not_lt_zero k), rfl⟩
          case round =>
            obtain ⟨i, hq, hi, rfl, rfl, hno, rfl⟩ := hrel
            by_cases him : i < m
            · have him' : (i : Int) < (m : Int) := by omega
              have hi6 : i < 64 := by omega
              have hi7 : (i : Int) < 64 := by omega
              have wi : IntKind.u64.wrap (i : Int) = (i : Int) := IntWalk.u64_in _ (by omega)
              have hbt := G.out.2.2.2.2.2.2.2.2.1 i hi6
              have cf := G.out.2.2.2.2.2.2.2.1.cell' (vecC_at (fun k => .int .i64 ((F k : Nat) : Int)) him)
              have lf' := G.out.2.2.2.2.2.2.2.1.lt
              obtain ⟨fi, hfi⟩ : ∃ fi, fi = F i := ⟨_, rfl⟩
              rw [← hfi] at cf
              have hhit : hitG E F at_ (d + 1) i = (E at_ i && decide (fi = d + 1)) := by rw [hfi]; rfl
              cases he : E at_ i with
              | false =>
                rw [he] at hbt hhit
                rw [Bool.false_and] at hhit
                have K := Lib.hid (And.intro hno (And.intro hhit hq))
                clear hno hhit hq he hfi
                go_wp2_with (fail)
                go_roundg (m - (i + 1))
                case measure => have := K.out.2.2; omega
                case rel =>
                  refine ⟨i + 1, rfl, him, by simp, rfl, fun k hk => ?_, by first | rfl | trivial⟩
                  by_cases e : k = i
                  · subst e; exact K.out.2.1
                  · exact K.out.1 k (by omega)
              | true =>
                rw [he] at hbt hhit
                rw [Bool.true_and] at hhit
                have hbt' : bits .and .u64 ((X : Int) / 2 ^ i) 1 = 1 := by simpa using hbt
                by_cases hfd : fi = d + 1
                · rw [decide_eq_true hfd] at hhit
                  have hfe : ((fi : Int) == Dd) = true := by rw [G.out.2.2.2.2.2.2.2.2.2.2.1]; simp; omega
                  have hown2 := own_below G.out.2.2.2.1 (gr_alloc (Below.refl _ _) (.cells #[.int .i64 (i : Int)] 3)) (Nat.le_refl _)
                  have hnc : (wo.alloc (.cells #[.int .i64 (i : Int)] 3)).cell? ⟨wo.heap.size, 0, none⟩ = some (.int .i64 (i : Int)) := (Blk.new wo 3 #[.int .i64 (i : Int)]).cell' rfl
                  have hlen : (a :: pre).length ≤ 1000000 := by rw [List.length_cons]; have := G.out.2.1; omega
                  have hpe : pl1 = (a :: pre).length := by rw [List.length_cons, G.out.2.2.2.2.2.2.2.2.2.2.2.1, G.out.2.2.2.2.2.2.2.2.2.1]
                  have K := Lib.hid (And.intro hno (And.intro hhit (And.intro hown2 (And.intro hnc hlen))))
                  clear hno hhit hq he hfi hfd hown2 hnc hlen hbt
                  go_wp2_with (at_builtin; refine app_one rfl _ _ (t := 25) rfl W3.heap.size Try.underlying25 infoInt rfl (by decide) _ _ _ rfl K.out.2.2.1 wo.heap.size (.int .i64 (i : Int)) rfl K.out.2.2.2.1 rfl K.out.2.2.2.2 (by simp; omega) ?_)
                  intro v' w2 hown' hgrow _
                  have hown' : OwnN w2 W3.heap.size v' ((a :: pre) ++ [i]) := by
                    unfold OwnN
                    rw [natC_snoc, List.length_append]
                    exact hown'
                  have L := Lib.hid (And.intro hown' ((gr_alloc G.out.2.2.1 (.cells #[.int .i64 (i : Int)] 3)).grown hgrow (by simp; omega) (fun q hq => (K.out.2.2.1.lt q hq).1)))
                  clear hown' hgrow
                  go_wp2_with (fail)
                  go_roundg d
                  case measure => have := G.out.1; omega
                  case rel =>
                    refine ⟨d, pre ++ [i], rfl, by have := G.out.2.1; rw [List.length_append, List.length_singleton]; omega, rfl, L.out.2, L.out.1, ?_, by rw [lastOf_snoc]; exact him⟩
                    rw [G.out.2.2.2.2.1, gre_hit him K.out.2.1 K.out.1, lastOf_snoc, List.append_assoc]; rfl
                · rw [decide_eq_false hfd] at hhit
                  have hfe : ((fi : Int) == Dd) = false := by rw [G.out.2.2.2.2.2.2.2.2.2.2.1]; simp; omega
                  have K := Lib.hid (And.intro hno (And.intro hhit hq))
                  clear hno hhit hq he hfi hbt hfd
                  go_wp2_with (fail)
                  go_roundg (m - (i + 1))
                  case measure => have := K.out.2.2; omega
                  case rel =>
                    refine ⟨i + 1, rfl, him, by simp, rfl, fun k hk => ?_, by first | rfl | trivial⟩
                    by_cases e : k = i
                    · subst e; exact K.out.2.1
                    · exact K.out.1 k (by omega)
            · have ei : i = m := by omega
              subst i
              have K := Lib.hid hno
              clear hno hq him
              go_wp2_with (fail)
              go_roundg d
              case measure => have := G.out.1; omega
              case rel =>
                refine ⟨d, pre, rfl, by have := G.out.2.1; omega, rfl, G.out.2.2.1, ?_, ?_, ?_⟩
                · have hpe : pl1 = (a :: pre).length := by rw [List.length_cons, G.out.2.2.2.2.2.2.2.2.2.2.2.1, G.out.2.2.2.2.2.2.2.2.2.1]
                  exact G.out.2.2.2.1
                · rw [G.out.2.2.2.2.1, gre_miss K.out, ← G.out.2.2.2.2.2.2.2.2.2.2.2.2]
                · rw [← G.out.2.2.2.2.2.2.2.2.2.2.2.2]; exact G.out.2.2.2.2.2.1

set_option maxRecDepth 100000 in
set_option maxHeartbeats 4000000 in
theorem path_code (n : Int) (l : List Edg) (f t : Int) (hl : l.length ≤ 1000000) (A : Option Addr) (c : Nat) (w : World) (hA : Cells w A 2 l.length (edAt l)) :
    Calls Try.prog 15 #[.agg #[.int .i64 n, .slice A l.length c], .int .i64 f, .int .i64 t] w fun e w' => ∃ v, e = .returned (.tuple #[v, .int .i64 (ePath n l f t)]) ∧ NatsAt w' v (vPath n l f t) ∧ Below w.heap.size w w' := by
  have b0 := gr_alloc (Below.refl w.heap.size w) (.cells #[.int .i64 n, .slice A l.length c] 24)
  have hA0 := hA.below b0
  by_cases he : (chkG n l).1 = 0
  · have hE : ePath n l f t = if (0 ≤ f ∧ 0 ≤ t) ∧ f < n ∧ t < n then (if rR n l f.toNat t.toNat = true then 0 else 3) else 2 := by unfold ePath; rw [if_pos he]
    have hck := he
    obtain ⟨m, rfl, hm, hv, hw, ht⟩ := ok_nat he
    have hR : rR (m : Int) l = rea m (relE l) := by unfold rR; rw [Int.toNat_natCast]
    have hmd := made_code m hm l hl hv he A c _ hA0
    have hm' : (m : Int) ≤ 64 := by omega
    by_cases hb : (0 ≤ f ∧ 0 ≤ t) ∧ f < (m : Int) ∧ t < (m : Int)
    · rw [if_pos hb, hR] at hE
      obtain ⟨a, rfl⟩ : ∃ a : Nat, f = (a : Int) := ⟨f.toNat, by omega⟩
      obtain ⟨b, rfl⟩ : ∃ b : Nat, t = (b : Int) := ⟨t.toNat, by omega⟩
      have ha : a < m := by omega
      have hb' : b < m := by omega
      rw [Int.toNat_natCast, Int.toNat_natCast] at hE
      cases hr : rea m (relE l) a b with
      | true =>
        rw [hr, if_pos rfl] at hE
        have hV : vPath (m : Int) l (a : Int) (b : Int) = pathV m (relE l) a b := by unfold vPath; rw [hE, if_pos rfl, Int.toNat_natCast, Int.toNat_natCast, Int.toNat_natCast]
        rw [hE, hV]
        exact path_ok m hm l hl hv hck a b ha hb' hr A c w hA
      | false =>
        rw [hr, if_neg (by decide)] at hE
        have hV : vPath (m : Int) l (a : Int) (b : Int) = [] := by unfold vPath; rw [hE, if_neg (by decide)]
        rw [hE, hV]
        obtain ⟨ln, hln⟩ : ∃ ln, ln = l.length := ⟨_, rfl⟩
        rw [← hln] at hmd b0 ⊢
        have H := Lib.hid (And.intro b0 (And.intro hmd hr))
        have hk1 : ¬ min (a : Int) (b : Int) < 0 := by omega
        have hk2 : ¬ (m : Int) ≤ max (a : Int) (b : Int) := by omega
        have hk3 : max (a : Int) (b : Int) < (m : Int) := by omega
        have ha6 : a < 64 := by omega
        have hb6 : b < 64 := by omega
        clear b0 hmd hr hE hV hln hA0 hA hl he hck hv hw ht hR hb
        go_enter Try.func15, Try.ntmps15
        go_wp2_with (fail)
        refine H.out.2.1.mono ?_
        rintro e W1 ⟨bg, bl, pv, kv, rfl, hg, h2⟩
        have c0 := hg.gr.gr.cell' (i := 0) rfl
        have c1 := hg.gr.gr.cell' (i := 1) rfl
        have lg := hg.gr.gr.lt
        have hgo := goes_code bl 79 _ (rea m (relE l)) a b W1 hg.gr.ln (lnkC_reach (relE l) (rea m (relE l)) ha6) ha6 hb6
        rw [H.out.2.2] at hgo
        have D := Lib.hid (And.intro (gr_call H.out.1 h2) hgo)
        clear hg h2 hgo
        go_wp2_with (fail)
        refine D.out.2.mono ?_
        rintro e W2 ⟨rfl, rfl⟩
        go_wp2_with (fail)
        go_ret2
        exact ⟨_, rfl, NatsAt.nil _, D.out.1⟩
    · rw [if_neg hb] at hE
      have hV : vPath (m : Int) l f t = [] := by unfold vPath; rw [hE, if_neg (by decide)]
      rw [hE, hV]
      obtain ⟨ln, hln⟩ : ∃ ln, ln = l.length := ⟨_, rfl⟩
      rw [← hln] at hmd b0 ⊢
      have H := Lib.hid (And.intro b0 hmd)
      clear b0 hmd hE hV hln hA0 hA hl he hck hv hw ht hR
      by_cases h0 : min f t < 0
      · clear hb
        go_enter Try.func15, Try.ntmps15
        go_wp2_with (fail)
        refine H.out.2.mono ?_
        rintro e W1 ⟨bg, bl, pv, kv, rfl, h1, h2⟩
        have c1 := h1.gr.gr.cell' (i := 1) rfl
        have lg := h1.gr.gr.lt
        have D := Lib.hid (gr_call H.out.1 h2)
        clear h1 h2
        go_wp2_with (fail)
        go_ret2
        exact ⟨_, rfl, NatsAt.nil _, D.out⟩
      · have h3 : (m : Int) ≤ max f t := by omega
        have h4 : ¬ max f t < (m : Int) := by omega
        clear hb
        go_enter Try.func15, Try.ntmps15
        go_wp2_with (fail)
        refine H.out.2.mono ?_
        rintro e W1 ⟨bg, bl, pv, kv, rfl, h1, h2⟩
        have c1 := h1.gr.gr.cell' (i := 1) rfl
        have lg := h1.gr.gr.lt
        have D := Lib.hid (gr_call H.out.1 h2)
        clear h1 h2
        go_wp2_with (fail)
        go_ret2
        exact ⟨_, rfl, NatsAt.nil _, D.out⟩
  · have hE : ePath n l f t = (chkG n l).1 := by unfold ePath; rw [if_neg he]
    have hV : vPath n l f t = [] := by unfold vPath; rw [hE, if_neg he]
    rw [hV, hE]
    have hmd := made_err n l hl A c _ hA0 he
    obtain ⟨E, hE⟩ : ∃ E, E = (chkG n l).1 := ⟨_, rfl⟩
    obtain ⟨ln, hln⟩ : ∃ ln, ln = l.length := ⟨_, rfl⟩
    rw [← hE] at hmd he ⊢
    rw [← hln] at hmd b0 ⊢
    have H := Lib.hid (And.intro b0 hmd)
    have he' : (E != 0) = true := by simpa using he
    clear b0 hmd hA0 hA hE hln hl he hV
    go_enter Try.func15, Try.ntmps15
    go_wp2_with (fail)
    refine H.out.2.mono ?_
    rintro e W1 ⟨rfl, h1⟩
    have D := Lib.hid (gr_call H.out.1 h1)
    clear h1
    go_wp2_with (fail)
    go_ret2
    exact ⟨_, rfl, NatsAt.nil _, D.out⟩
end Go.Proofs.Ytjgkiiohbceocaa
