/-
  The law SccWeighs, walked: it returns true; no condition.
-/
import Derived.Test.YtjgkiiohbceocaaSeP
import Derived.BigQuiet
namespace Go.Proofs.Ytjgkiiohbceocaa
open Go.RowKit
set_option linter.unusedVariables false
set_option linter.unusedSimpArgs false

theorem nats_ints {W : World} {v : Value} {l : List Nat} (h : NatsAt W v l) : CellsAt W v (intL (toI l)) := by
  obtain ⟨A, c, h1, h2⟩ := h.ex
  refine ⟨A, c, by rw [intL_len, toI_len]; exact h1, fun hn => ?_⟩
  obtain ⟨g, o, h3, h4, h5⟩ := h2 (fun e => hn (by rw [e]; rfl))
  refine ⟨g, o, h3, h4, fun j u hu => ?_⟩
  unfold intL toI at hu
  rw [List.getElem?_map, List.getElem?_map] at hu
  cases hx : l[j]? with
  | none => rw [hx] at hu; cases hu
  | some x => rw [hx] at hu; cases hu; exact h5 j x hx
theorem wN_nat {wl : List Nat} {k y : Nat} (h : wl[k]? = some y) : wN (toI wl) k = y := by
  unfold wN toI
  rw [List.getElem?_map, h]; rfl
theorem tdiv7 (x : Int) (h : -9223372036854775808 ≤ x ∧ x ≤ 9223372036854775807) : -9223372036854775808 ≤ x.tdiv 7 ∧ x.tdiv 7 ≤ 9223372036854775807 := by
  by_cases h0 : 0 ≤ x
  · rw [Int.tdiv_eq_ediv_of_nonneg h0]; omega
  · have e : x.tdiv 7 = -((-x).tdiv 7) := by rw [Int.neg_tdiv, Int.neg_neg]
    rw [e, Int.tdiv_eq_ediv_of_nonneg (by omega)]; omega
/-- own, as far as it is filled from the front. -/
def ownU (own : Nat → Nat) (k x : Nat) : Nat := if x < k then own x else 0
/-- best, as far as it is filled from the end. -/
def bT (np : Nat) (b : Nat → Nat) (j x : Nat) : Nat := if np - j ≤ x then b x else 0
theorem bst_at {np : Nat} {e : Nat → Nat → Bool} {own : Nat → Nat} {i : Nat} (hi : i < np) : bstF np e own i = mxI e (fun k => own i + bstF np e own k) i (own i) (np - (i + 1)) := bstF_at hi

set_option maxRecDepth 100000 in
set_option maxHeartbeats 16000000 in
theorem law_weighs (n : Int) (nl : List Int) (A : Option Addr) (c : Nat) (w : World) (hn : -9223372036854775808 ≤ n ∧ n ≤ 9223372036854775807) (hA : Cells w A 1 nl.length (intsAt nl)) (hb : ∀ x ∈ nl, -9223372036854775808 ≤ x ∧ x ≤ 9223372036854775807) :
    Calls Try.prog 8 #[.int .i64 n, .slice A nl.length c] w fun e w' => e = .returned (.bool true) ∧ Below w.heap.size w w' := by
  have hmd := fun W hW => made_law n nl hn hb A c W hW
  have hat := fun i hi W hW => at_law nl A c i hi W hW hb
  obtain ⟨ln, hln⟩ : ∃ ln, ln = nl.length := ⟨_, rfl⟩
  have H := Lib.hid (And.intro hmd (And.intro hA hat))
  rw [← hln] at H ⊢
  have HLN := Lib.hid hln
  clear hmd hA hb hn hln hat
  go_enter Try.func8, Try.ntmps8
  go_wp2_with (fail)
  refine (law_known _).mono ?_
  rintro e W1 ⟨rfl, h1⟩
  have hA1 := H.out.2.1.below h1
  have D := Lib.hid (And.intro h1 hA1)
  clear h1 hA1
  go_wp2_with (fail)
  refine (H.out.1 _ (by have := D.out.2; exact this)).mono ?_
  rintro e W2 ⟨m, l, B, d, rfl, hm, hlen, hck, hB, h2⟩
  have ha := gr_alloc (Below.refl W2.heap.size W2) (.cells #[.int .i64 (m : Int), .slice B l.length d] 24)
  have kG := Blk.new W2 24 #[.int .i64 (m : Int), .slice B l.length d]
  have hA3 := D.out.2.below (gr_call h2 ha)
  have hll : l.length ≤ 1000000 := by omega
  have hB3 := hB.below ha
  obtain ⟨W3, hW3⟩ : ∃ X, W2.alloc (.cells #[.int .i64 (m : Int), .slice B l.length d] 24) = X := ⟨_, rfl⟩
  have hbD := gr_call D.out.1 (gr_call h2 ha)
  go_wp2_with (fail)
  rw [hW3] at ha kG hA3 hB3 hbD
  have S := Lib.hid (And.intro (hbD) (And.intro (kG) (And.intro (hB3) (hA3))))
  clear h2 ha kG hB hB3 D hlen hA3 hbD hW3
  go_loopg [7, 8] m (fun q wv iv wr => ∃ (i : Nat) (wl : List Nat), q = m - i ∧ i ≤ m ∧ iv = .int .i64 (i : Int) ∧ Below W3.heap.size W3 wr ∧ OwnN wr W3.heap.size wv wl ∧ wl.length = i ∧ ∀ y ∈ wl, y ≤ 5)
  case atStart => exact ⟨0, [], rfl, Nat.zero_le _, rfl, Below.refl _ _, ownN_nil _ _, rfl, fun y hy => by cases hy⟩
  case round =>
    obtain ⟨i, wl, hq, hi, rfl, hbel, hown, hwl, hw5⟩ := hrel
    have g0 := ((S.out.2.1).call hbel).cell' (i := 0) rfl
    have g1 := ((S.out.2.1).call hbel).cell' (i := 1) rfl
    have gl := ((S.out.2.1).call hbel).lt
    by_cases him : i < m
    · have hi' : (i : Int) < (m : Int) := by omega
      have hat := H.out.2.2 i (by omega) wr ((S.out.2.2.2).below hbel)
      obtain ⟨oa, oc, hov⟩ := own_slice hown
      rw [hwl] at hov
      subst hov
      have B1 := Lib.hid (And.intro hq (And.intro hbel (And.intro hown (And.intro hwl (And.intro hw5 hat)))))
      clear hq hbel hown hwl hw5 hat g1
      go_wp2_with (fail)
      refine B1.out.2.2.2.2.2.mono ?_
      rintro e W ⟨x, rfl, hx, rfl⟩
      have hx7 := tdiv7 x hx
      obtain ⟨y, hy⟩ : ∃ y : Nat, x.tdiv 7 % 6 = (y : Int) := ⟨(x.tdiv 7 % 6).toNat, by omega⟩
      have hkm := kmodE (x.tdiv 7) 6 wr hx7 ⟨by decide, by decide⟩
      rw [hy] at hkm
      have hy5 : y ≤ 5 := by omega
      have K := Lib.hid hkm
      obtain ⟨x7, hx7e⟩ : ∃ z, z = x.tdiv 7 := ⟨_, rfl⟩
      have w7 : IntKind.i64.wrap (x.tdiv 7) = x.tdiv 7 := IntWalk.i64_in _ (by omega)
      clear hkm hy hx7e
      go_wp2_with (fail)
      refine K.out.mono ?_
      rintro e W ⟨rfl, rfl⟩
      have hown3 := own_below B1.out.2.2.1 (gr_alloc (Below.refl wr.heap.size wr) (.cells #[.int .i64 (y : Int)] 3)) (Nat.le_refl _)
      rw [B1.out.2.2.2.1] at hown3
      have hck2 := (Blk.new wr 3 #[.int .i64 (y : Int)]).cell' (i := 0) rfl
      have hba := gr_alloc B1.out.2.1 (.cells #[.int .i64 (y : Int)] 3)
      have hsz := B1.out.2.1.size
      have C := Lib.hid (And.intro hown3 (And.intro hck2 hba))
      clear hown3 hck2 hba K g0 gl
      go_wp2_with (at_builtin; refine app_one rfl _ _ (t := 25) rfl W3.heap.size Try.underlying25 infoInt rfl (by decide) _ _ _ rfl C.out.1 wr.heap.size (.int .i64 (y : Int)) rfl C.out.2.1 rfl (by omega) (by simp; omega) ?_)
      intro vb Z2 hvb hg2 _
      have hvb2 : OwnN Z2 W3.heap.size vb (wl ++ [y]) := by
        unfold OwnN
        rw [natC_snoc, List.length_append, B1.out.2.2.2.1]
        exact hvb
      have hZ := C.out.2.2.grown hg2 (by simp; omega) (fun q hq => (C.out.1.lt q hq).1)
      have E := Lib.hid (And.intro hvb2 hZ)
      clear hvb hvb2 hg2 hZ
      go_wp2_with (fail)
      go_roundg (m - (i + 1))
      case measure => have := B1.out.1; omega
      case rel =>
        refine ⟨i + 1, wl ++ [y], rfl, him, by simp, E.out.2, E.out.1, by rw [List.length_append, B1.out.2.2.2.1]; rfl, fun z hz => ?_⟩
        rcases List.mem_append.1 hz with hz | hz
        · exact B1.out.2.2.2.2.1 z hz
        · rw [List.mem_singleton] at hz; omega
    · obtain rfl : m = i := by omega
      obtain ⟨np, e, own, hE, hCN, hC, hg⟩ := wg_ok hck wl hwl (fun y hy => by have := hw5 y hy; omega)
      obtain ⟨ls, hls⟩ : ∃ x, x = vParts (m : Int) l := ⟨_, rfl⟩
      obtain ⟨x, hx⟩ : ∃ x, x = (vHv (m : Int) l (toI wl)).1 := ⟨_, rfl⟩
      obtain ⟨ch, hch⟩ : ∃ x, x = (vHv (m : Int) l (toI wl)).2 := ⟨_, rfl⟩
      rw [← hls, ← hx, ← hch] at hg
      obtain ⟨L, hL⟩ : ∃ x, x = condL np e := ⟨_, rfl⟩
      rw [← hL] at hC
      obtain ⟨LE, hLE⟩ : ∃ x, x = L.map conE := ⟨_, rfl⟩
      rw [← hLE] at hC
      obtain ⟨nc, hnc⟩ : ∃ x, x = ch.length := ⟨_, rfl⟩
      have hnp64 := hg.np_.2
      have hnc6 : nc ≤ 1000000 := by rw [hnc]; exact hg.zero.2
      have hL6 : L.length ≤ 1000000 := by rw [hL]; exact Nat.le_trans (condL_len _ _) (Nat.le_trans (Nat.mul_le_mul hnp64 hnp64) (by decide))
      obtain ⟨zb, hz1, hz2⟩ : ∃ zb : Bool, ((m : Int) == 0) = zb ∧ ((nc : Int) == 0) = zb := by
        by_cases h0 : m = 0
        · have := hg.zero.1.1 h0
          exact ⟨true, by simpa using h0, by rw [hnc, this]; rfl⟩
        · refine ⟨false, by simpa using h0, ?_⟩
          have : nc ≠ 0 := fun h => h0 (hg.zero.1.2 (List.eq_nil_of_length_eq_zero (by rw [← hnc]; exact h)))
          simpa using this
      obtain ⟨oa, oc, hov⟩ := own_slice hown
      rw [hwl] at hov
      subst hov
      have hwv := OwnN.at_ hown
      have hc1 := heavy_code (m : Int) l (toI wl) hll (by rw [toI_len]; omega) B d (.slice oa m oc) wr ((S.out.2.2.1).below hbel) (nats_ints hwv)
      rw [hE, ← hx, ← hch] at hc1
      have hc2 := fun W hW => condense_code (m : Int) l hll B d W hW
      rw [hck, hCN, hC] at hc2
      have hc3 := fun W hW => parts_code (m : Int) l hll B d W hW
      rw [hck, ← hls] at hc3
      have O := Lib.hid (And.intro hg (And.intro hwl (And.intro hw5 (And.intro hL (And.intro hnc (And.intro hc1 (And.intro hc2 hc3)))))))
      have HLE := Lib.hid hLE
      clear hLE
      clear hE hCN hC hg hls hx hch hL hnc hwl hw5 hown hc1 hc2 hc3 hq him hck
      have S2 := Lib.hid (And.intro (gr_call (S.out.1) hbel) (And.intro ((S.out.2.1).call hbel) (And.intro ((S.out.2.2.1).below hbel) (hwv))))
      clear S hbel hwv
      have S := Lib.hid S2.out
      clear S2
      clear g0 g1 gl
      have g0 := (S.out.2.1).cell' (i := 0) rfl
      have g1 := (S.out.2.1).cell' (i := 1) rfl
      have gl := (S.out.2.1).lt
      go_wp2_with (fail)
      refine O.out.2.2.2.2.2.1.mono ?_
      rintro e V1 ⟨v1, rfl, x1, h⟩
      obtain ⟨Av1, cv1, rfl, _⟩ := x1.ex
      rw [← O.out.2.2.2.2.1] at x1 ⊢
      clear g0 g1 gl
      have S2 := Lib.hid (And.intro (gr_call (S.out.1) h) (And.intro ((S.out.2.1).call h) (And.intro ((S.out.2.2.1).below h) (And.intro ((S.out.2.2.2).below h) (x1)))))
      clear S h x1
      have S := Lib.hid S2.out
      clear S2
      have g0 := (S.out.2.1).cell' (i := 0) rfl
      have g1 := (S.out.2.1).cell' (i := 1) rfl
      have gl := (S.out.2.1).lt
      go_wp2_with (fail)
      refine (O.out.2.2.2.2.2.2.1 _ (S.out.2.2.1)).mono ?_
      rintro e V2 ⟨v2, rfl, ⟨Ac, cc, rfl, x2⟩, h0⟩
      have ha := gr_alloc (Below.refl V2.heap.size V2) (.cells #[.int .i64 (np : Int), .slice Ac LE.length cc] 24)
      have kb := Blk.new V2 24 #[.int .i64 (np : Int), .slice Ac LE.length cc]
      have x3 := x2.below ha
      have h := gr_call h0 ha
      clear g0 g1 gl
      have S2 := Lib.hid (And.intro (gr_call (S.out.1) h) (And.intro ((S.out.2.1).call h) (And.intro ((S.out.2.2.1).below h) (And.intro ((S.out.2.2.2.1).below h) (And.intro ((S.out.2.2.2.2).below h) (And.intro (kb) (x3)))))))
      clear S h ha h0 x2 x3 kb
      have S := Lib.hid S2.out
      clear S2
      have g0 := (S.out.2.1).cell' (i := 0) rfl
      have g1 := (S.out.2.1).cell' (i := 1) rfl
      have gl := (S.out.2.1).lt
      go_wp2_with (fail)
      refine (O.out.2.2.2.2.2.2.2 _ (S.out.2.2.1)).mono ?_
      rintro e V3 ⟨v3, rfl, x1, h⟩
      obtain ⟨Av3, cv3, rfl, _⟩ := x1.ex
      rw [← O.out.1.np_.1] at x1 ⊢
      clear g0 g1 gl
      have S2 := Lib.hid (And.intro (gr_call (S.out.1) h) (And.intro ((S.out.2.1).call h) (And.intro ((S.out.2.2.1).below h) (And.intro ((S.out.2.2.2.1).below h) (And.intro ((S.out.2.2.2.2.1).below h) (And.intro ((S.out.2.2.2.2.2.1).call h) (And.intro ((S.out.2.2.2.2.2.2).below h) (x1))))))))
      clear S h x1
      have S := Lib.hid S2.out
      clear S2
      have g0 := (S.out.2.1).cell' (i := 0) rfl
      have g1 := (S.out.2.1).cell' (i := 1) rfl
      have gl := (S.out.2.1).lt
      have k0 := (S.out.2.2.2.2.2.1).cell' (i := 0) rfl
      have kl := (S.out.2.2.2.2.2.1).lt
      have hmk := fun W => mk_vec (t := 25) (z := .int .i64 0) Try.underlying25 infoInt rfl (by decide) np (by omega) W
      have hm1 := hmk V3
      have bA := gr_alloc (Below.refl V3.heap.size V3) (.cells (numC np fun _ => 0) 3)
      have kA := Blk.new V3 3 (numC np fun _ => 0)
      have P := Lib.hid (And.intro bA kA)
      clear bA kA
      go_wp2_with (fail)
      clear hm1 g0 g1 gl k0 kl
      go_loopg [17] np (fun q kv wr => ∃ k : Nat, q = np - k ∧ k ≤ np ∧ kv = .int .i64 (k : Int) ∧ Below V3.heap.size V3 wr ∧ Blk wr V3.heap.size 3 (numC np (ownU own k)))
      case atStart => exact ⟨0, rfl, Nat.zero_le _, rfl, P.out.1, P.out.2⟩
      case round =>
        obtain ⟨k, hq, hk, rfl, hbel, hat⟩ := hrel
        by_cases hkn : k < np
        · have hk' : (k : Int) < (np : Int) := by omega
          obtain ⟨cc', hcc⟩ : ∃ c, ls[k]? = some c := ⟨_, List.getElem?_eq_getElem (by rw [← O.out.1.np_.1]; exact hkn)⟩
          obtain ⟨hcn, hc64, hcm, hco⟩ := O.out.1.part k cc' hcc
          obtain ⟨nu, hnu⟩ : ∃ x, x = cc'.length := ⟨_, rfl⟩
          rw [← hnu] at hc64
          have B1 := Lib.hid (And.intro hq (And.intro hbel (And.intro hat (And.intro hcc (And.intro hcm (And.intro hco hnu))))))
          clear hq hbel hat hcc hcn hcm hco hnu
          rename World => wo
          go_wp2_with (fail)
          go_loopg [18] nu (fun q tv wr => ∃ t : Nat, q = nu - t ∧ t ≤ nu ∧ tv = .int .i64 (t : Int) ∧ Below V3.heap.size V3 wr ∧ Blk wr V3.heap.size 3 (numC np (upd (ownU own k) k (oT (toI wl) (cc'.take t)))))
          case atStart =>
            refine ⟨0, rfl, Nat.zero_le _, rfl, B1.out.2.1, ?_⟩
            rw [numC_congr (f := upd (ownU own k) k (oT (toI wl) (cc'.take 0))) (g := ownU own k) (fun y _ => by
              by_cases hy : y = k
              · subst hy; rw [upd_same]; unfold ownU; rw [if_neg (Nat.lt_irrefl _)]; rfl
              · rw [upd_other _ _ hy])]
            exact B1.out.2.2.1
          case round =>
            obtain ⟨t, hq, ht, rfl, hbel, hat⟩ := hrel
            have g0 := ((S.out.2.1).call hbel).cell' (i := 0) rfl
            have gl := ((S.out.2.1).call hbel).lt
            obtain ⟨gp, u1, hA1, hl1, hc1, hu1⟩ := cell_ll ((S.out.2.2.2.2.2.2.2).below hbel) rfl B1.out.2.2.2.1
            obtain ⟨ua, uc, hue, _⟩ := hu1.ex
            rw [← B1.out.2.2.2.2.2.2] at hue
            subst hA1 hue
            by_cases htn : t < nu
            · have ht' : (t : Int) < (nu : Int) := by omega
              obtain ⟨y, hy⟩ : ∃ x, cc'[t]? = some x := ⟨_, List.getElem?_eq_getElem (by rw [← B1.out.2.2.2.2.2.2]; exact htn)⟩
              have hym := B1.out.2.2.2.2.1 y (List.mem_of_getElem? hy)
              obtain ⟨gx, ox, hAx, hlx, hcx⟩ := cell_nats hu1 rfl hy
              subst hAx
              obtain ⟨z, hz⟩ : ∃ z, wl[y]? = some z := ⟨_, List.getElem?_eq_getElem (by rw [O.out.2.1]; exact hym)⟩
              have hz5 := O.out.2.2.1 z (List.mem_of_getElem? hz)
              obtain ⟨gw, ow, hAw, hlw, hcw⟩ := cell_nats ((S.out.2.2.2.1).below hbel) rfl hz
              subst hAw
              have hst := oT_step (wl := toI wl) hy
              rw [wN_nat hz] at hst
              have ci := hat.cell' (vecC_at (fun k' => .int .i64 ((upd (ownU own k) k (oT (toI wl) (cc'.take t)) k' : Nat) : Int)) hkn)
              rw [upd_same] at ci
              have fi := hat.frozen k
              have li := hat.lt
              have hb1 : oT (toI wl) (cc'.take t) ≤ 1000 := oT_le (fun q _ => by
                unfold wN toI
                rw [List.getElem?_map]
                cases hq : wl[q]? with
                | none => exact Nat.zero_le _
                | some r => have := O.out.2.2.1 r (List.mem_of_getElem? hq); show ((r : Int)).toNat ≤ 1000; omega) 0 (by decide)
              obtain ⟨a, ha⟩ : ∃ a, a = oT (toI wl) (cc'.take t) := ⟨_, rfl⟩
              rw [← ha] at ci hb1 hst
              have ha3 : (a : Int) ≤ 1000 := by omega
              have hz3 : (z : Int) ≤ 5 := by omega
              have hym' : (y : Int) < (m : Int) := by omega
              have hy0' : ¬ ((y : Int) < 0) := by omega
              have hyg' : ¬ ((m : Int) ≤ (y : Int)) := by omega
              have hyd1 : decide ((y : Int) < 0) = false := decide_eq_false hy0'
              have hyd2 : decide ((m : Int) ≤ (y : Int)) = false := decide_eq_false hyg'
              have hyd3 : decide (m ≤ y) = false := decide_eq_false (by omega)
              have hyd4 : ¬ m ≤ y := by omega
              have F := Lib.hid (And.intro hst (And.intro hbel (And.intro hat (And.intro hq ha))))
              clear hst hbel hat hq ha hy hz hu1 hb1
              go_wp2_with (fail)
              go_quiet (fail)
              go_wp2_with (fail)
              go_region
              go_wp2_with (fail)
              go_roundg (nu - (t + 1))
              case measure => have := F.out.2.2.2.1; omega
              case rel =>
                have ho : max (a : Int) (z : Int) = ((max a z : Nat) : Int) := by omega
                rw [ho]
                have hbb := gr_set F.out.2.1 (p := ⟨V3.heap.size, k, none⟩) (Nat.le_refl _) (.int .i64 ((max a z : Nat) : Int))
                refine ⟨t + 1, rfl, htn, by simp, ⟨hbb.os, hbb.tape, hbb.output, hbb.size, hbb.block⟩, ?_⟩
                have h9 := F.out.2.2.1.set_ k (.int .i64 ((max a z : Nat) : Int))
                rw [numC_set (f := upd (ownU own k) k (oT (toI wl) (cc'.take t))) (g := upd (ownU own k) k (max a z)) hkn (upd_same _ _ _) (fun j _ hj => by rw [upd_other _ _ hj, upd_other _ _ hj])] at h9
                rw [F.out.1]
                exact h9.drewN _
            · have et : t = nu := by omega
              subst t
              have hat2 : Blk wr V3.heap.size 3 (numC np (ownU own (k + 1))) := by
                have h := hat
                rw [B1.out.2.2.2.2.2.2, List.take_length, ← B1.out.2.2.2.2.2.1] at h
                rw [numC_congr (f := ownU own (k + 1)) (g := upd (ownU own k) k (own k)) (fun y _ => by
                  unfold ownU
                  by_cases hy : y = k
                  · subst hy; rw [upd_same, if_pos (Nat.lt_succ_self _)]
                  · rw [upd_other _ _ hy]
                    by_cases h1 : y < k
                    · rw [if_pos h1, if_pos (by omega)]
                    · rw [if_neg h1, if_neg (by omega)])]
                exact h
              have F := Lib.hid (And.intro hbel hat2)
              clear hbel hat hat2 hq htn hu1
              go_wp2_with (fail)
              go_roundg (np - (k + 1))
              case measure => have := B1.out.1; omega
              case rel => exact ⟨k + 1, rfl, hkn, by simp, F.out.1, F.out.2⟩
        · have ek : k = np := by omega
          subst k
          have hat2 : Blk wr V3.heap.size 3 (numC np own) := by
            rw [numC_congr (f := own) (g := ownU own np) (fun y hy => by unfold ownU; rw [if_pos hy])]
            exact hat
          have F := Lib.hid (And.intro hbel hat2)
          clear hbel hat hat2 hq hkn
          rename World => V4
          go_wp2_with (fail)
          go_loopg [19, 20] nc (fun q sv iv wr => ∃ k : Nat, q = nc - k ∧ k ≤ nc ∧ sv = .int .i64 ((sumO own (ch.take k) : Nat) : Int) ∧ iv = .int .i64 (k : Int) ∧ Below V3.heap.size V3 wr ∧ Blk wr V3.heap.size 3 (numC np own) ∧ sumO own (ch.take k) ≤ 1000 * k)
          case atStart => exact ⟨0, rfl, Nat.zero_le _, rfl, rfl, F.out.1, F.out.2, Nat.le_refl _⟩
          case round =>
            obtain ⟨k, hq, hk, rfl, rfl, hbel, hat, hsb⟩ := hrel
            by_cases hkn : k < nc
            · have hk' : (k : Int) < (nc : Int) := by omega
              obtain ⟨y, hy⟩ : ∃ x, ch[k]? = some x := ⟨_, List.getElem?_eq_getElem (by rw [← O.out.2.2.2.2.1]; exact hkn)⟩
              have hyn := O.out.1.lt y (List.mem_of_getElem? hy)
              have hyo := O.out.1.own_ y
              obtain ⟨gx, ox, hAx, hlx, hcx⟩ := cell_nats ((S.out.2.2.2.2.1).below hbel) rfl hy
              subst hAx
              have cy := hat.cell' (vecC_at (fun k' => .int .i64 ((own k' : Nat) : Int)) hyn)
              have ly := hat.lt
              have hst := sumO_take (own := own) hy
              have hstep := fun k1 (h : k1 + 1 = k) u hu => O.out.1.step k1 u y hu (by rw [h]; exact hy)
              obtain ⟨sm, hsm⟩ : ∃ x, x = sumO own (ch.take k) := ⟨_, rfl⟩
              obtain ⟨oy, hoy⟩ : ∃ x, x = own y := ⟨_, rfl⟩
              rw [← hsm, ← hoy] at hst
              rw [← hsm] at hsb ⊢
              rw [← hoy] at hyo cy
              have hoyE := Lib.hid hoy
              have hsb9 : sm ≤ 1000000000 := by omega
              have hyn' : (y : Int) < (np : Int) := by omega
              have hy0' : ¬ ((y : Int) < 0) := by omega
              have hyg' : ¬ ((np : Int) ≤ (y : Int)) := by omega
              have hyd1 : decide ((y : Int) < 0) = false := decide_eq_false hy0'
              have hyd2 : decide ((np : Int) ≤ (y : Int)) = false := decide_eq_false hyg'
              have hyd3 : decide (np ≤ y) = false := decide_eq_false (by omega)
              have hyd4 : ¬ np ≤ y := by omega
              have ws : IntKind.i64.wrap ((sm : Int) + (oy : Int)) = ((sm + oy : Nat) : Int) := (IntWalk.i64_in _ (by omega)).trans (by simp)
              have hsb2 : sm + oy ≤ 1000 * (k + 1) := by omega
              by_cases hk0 : k = 0
              · subst hk0
                rw [Nat.add_zero] at hcx
                have hz1' : ¬ ((0 : Int) < ((0 : Nat) : Int)) := by decide
                have B1 := Lib.hid (And.intro hq (And.intro hbel (And.intro hat (And.intro hst hsb2))))
                clear hq hbel hat hst hy hstep hsm hoy hsb
                go_wp2_with (fail)
                go_quiet (fail)
                go_wp2_with (fail)
                go_roundg (nc - (0 + 1))
                case measure => have := B1.out.1; omega
                case rel => exact ⟨0 + 1, rfl, hkn, by rw [B1.out.2.2.2.1]; simp, by simp, below_drewN B1.out.2.1 _, B1.out.2.2.1.drewN _, by rw [B1.out.2.2.2.1]; exact B1.out.2.2.2.2⟩
              · have hk1 : (0 : Int) < (k : Int) := by omega
                have hk1n : 0 < k := by omega
                obtain ⟨k1, hk1e⟩ : ∃ x, x + 1 = k := ⟨k - 1, by omega⟩
                obtain ⟨u, hu⟩ : ∃ x, ch[k1]? = some x := ⟨_, List.getElem?_eq_getElem (by rw [← O.out.2.2.2.2.1]; omega)⟩
                obtain ⟨gx', ox', hAx', hlx', hcu⟩ := cell_nats ((S.out.2.2.2.2.1).below hbel) rfl hu
                cases hAx'
                have huy := hstep k1 hk1e u hu
                have wk1 : IntKind.i64.wrap ((k : Int) - 1) = (k1 : Int) := (IntWalk.i64_in _ (by omega)).trans (by omega)
                have hk1' : (k1 : Int) < (nc : Int) := by omega
                have hce := (S.out.2.2.2.2.2.2.1).below hbel
                rw [HLE.out] at hce
                have hlk := fun W (hW : Below wr.heap.size wr W) => linked_law (np : Int) L u y hL6 Ac cc W (hce.below hW)
                have hin : (u, y) ∈ L := by rw [O.out.2.2.2.1]; exact huy
                rw [decide_eq_true hin, ← HLE.out] at hlk
                have kc := (S.out.2.2.2.2.2.1).call hbel
                have q0 := kc.cell' (i := 0) rfl
                have q1 := kc.cell' (i := 1) rfl
                have ql := kc.lt
                have B1 := Lib.hid (And.intro hq (And.intro hbel (And.intro hat (And.intro hst (And.intro hsb2 hlk)))))
                clear hq hbel hat hst hy hstep hsm hoy hsb hlk hin huy hu hce hk1e hk0 kc
                go_wp2_with (fail)
                go_region_held_law (fun w' => w'.cell? ⟨gx, ox + k, none⟩ = some (.int .i64 (y : Int)) ∧ w'.cell? ⟨gx, ox + k1, none⟩ = some (.int .i64 (u : Int)) ∧ w'.cell? ⟨V2.heap.size, 0, none⟩ = some (.int .i64 (np : Int)) ∧ w'.cell? ⟨V2.heap.size, 1, none⟩ = some (.slice Ac LE.length cc))
                  (first
                    | ((try simp only [World.cell?_drew]); (refine ⟨?_, ?_, ?_, ?_⟩ <;> assumption))
                    | exact ⟨(h2.cell (p := ⟨gx, ox + k, none⟩) hlx).trans hcx, (h2.cell (p := ⟨gx, ox + k1, none⟩) hlx).trans hcu, (h2.cell (p := ⟨V2.heap.size, 0, none⟩) ql).trans q0, (h2.cell (p := ⟨V2.heap.size, 1, none⟩) ql).trans q1⟩)
                  ((go_at_call 42; refine (B1.out.2.2.2.2.2 _ ?_).mono ?_; (first | exact gr_drew (Below.refl _ _) | exact Below.refl _ _); rintro e w2 ⟨rfl, h2⟩))
                all_goals (
                  have hX : Below wr.heap.size wr w2 := (by first | exact gr_call (gr_drew (Below.refl _ _)) h2 | exact h2)
                  have hat2 := B1.out.2.2.1.call hX
                  have cy2 := hat2.cell' (vecC_at (fun k' => .int .i64 ((own k' : Nat) : Int)) hyn)
                  have ly2 := hat2.lt
                  have cx2 := (hX.cell (p := ⟨gx, ox + k, none⟩) hlx).trans hcx
                  have lx2 := Nat.lt_of_lt_of_le hlx hX.size
                  have T := Lib.hid (And.intro (gr_call B1.out.2.1 hX) hat2)
                  clear hX hat2 h2 cy ly hcx hcu q0 q1 ql)
                all_goals (
                  rw [← hoyE.out] at cy2
                  go_wp2_with (fail)
                  go_roundg (nc - (k + 1))
                  case measure => have := B1.out.1; omega
                  case rel => exact ⟨k + 1, rfl, hkn, by rw [B1.out.2.2.2.1]; simp, by simp, T.out.1, T.out.2, by rw [B1.out.2.2.2.1]; exact B1.out.2.2.2.2.1⟩)
            · have ek : k = nc := by omega
              subst k
              rw [O.out.2.2.2.2.1, List.take_length, O.out.1.sum]
              rw [← O.out.2.2.2.2.1]
              have F2 := Lib.hid (And.intro hbel hat)
              clear hbel hat hq hkn hsb
              rename World => V5
              have hm1 := hmk V5
              have bA := gr_call F2.out.1 (gr_alloc (Below.refl V5.heap.size V5) (.cells (numC np fun _ => 0) 3))
              have bA2 := gr_alloc (Below.refl V5.heap.size V5) (.cells (numC np fun _ => 0) 3)
              have kA := Blk.new V5 3 (numC np fun _ => 0)
              have kO := F2.out.2.alloc (.cells (numC np fun _ => 0) 3)
              have hne := F2.out.2.lt
              have Q := Lib.hid (And.intro bA (And.intro kA kO))
              have w1 : IntKind.i64.wrap ((np : Int) - 1) = (np : Int) - 1 := IntWalk.i64_in _ (by omega)
              clear bA bA2 kA kO
              go_wp2_with (fail)
              clear hm1
              go_loopg [22] np (fun q iv wr => ∃ j : Nat, q = np - j ∧ j ≤ np ∧ iv = .int .i64 ((np : Int) - 1 - (j : Int)) ∧ Below V3.heap.size V3 wr ∧ Blk wr V3.heap.size 3 (numC np own) ∧ Blk wr V5.heap.size 3 (numC np (bT np (bstF np e own) j)))
              case atStart =>
                refine ⟨0, rfl, Nat.zero_le _, by simp, Q.out.1, Q.out.2.2, ?_⟩
                rw [numC_congr (f := bT np (bstF np e own) 0) (g := fun _ => 0) (fun y hy => by unfold bT; rw [if_neg (by omega)])]
                exact Q.out.2.1
              case round =>
                obtain ⟨j, hq, hj, rfl, hbel, hat, hbt⟩ := hrel
                by_cases hjn : j < np
                · obtain ⟨i, hi⟩ : ∃ i : Nat, i = np - 1 - j := ⟨_, rfl⟩
                  have hin : i < np := by omega
                  have hiI : (np : Int) - 1 - (j : Int) = (i : Int) := by omega
                  rw [hiI]
                  have hi0 : (0 : Int) ≤ (i : Int) := by omega
                  have hi' : (i : Int) < (np : Int) := by omega
                  have wi : IntKind.i64.wrap ((i : Int) - 1) = (i : Int) - 1 := IntWalk.i64_in _ (by omega)
                  have ci := hat.cell' (vecC_at (fun k' => .int .i64 ((own k' : Nat) : Int)) hin)
                  have lo := hat.lt
                  have cb := hbt.cell' (vecC_at (fun k' => .int .i64 ((bT np (bstF np e own) j k' : Nat) : Int)) hin)
                  have fb := hbt.frozen i
                  have lb := hbt.lt
                  have hoi := O.out.1.own_ i
                  obtain ⟨oi, hoie⟩ : ∃ x, x = own i := ⟨_, rfl⟩
                  rw [← hoie] at ci hoi
                  have hbs := gr_set hbel (p := ⟨V5.heap.size, i, none⟩) (by have := F2.out.1.size; exact this) (.int .i64 (oi : Int))
                  have hat2 := hat.far (p := ⟨V5.heap.size, i, none⟩) (by show V3.heap.size ≠ V5.heap.size; omega) (.int .i64 (oi : Int))
                  have hbt2 := hbt.set_ i (.int .i64 (oi : Int))
                  rw [numC_set (f := bT np (bstF np e own) j) (g := upd (bT np (bstF np e own) j) i oi) hin (upd_same _ _ _) (fun k _ hk => upd_other _ _ hk)] at hbt2
                  have B1 := Lib.hid (And.intro hq (And.intro hiI (And.intro hbs (And.intro hat2 (And.intro hbt2 (And.intro hi hoie))))))
                  clear hq hiI hbel hat hbt hbs hat2 hbt2 hi hoie
                  rename World => wo
                  go_wp2_with (fail)
                  clear ci lo cb fb lb
                  go_loopg [23] j (fun q kv wr => ∃ c : Nat, q = j - c ∧ c ≤ j ∧ kv = .int .i64 ((i + 1 + c : Nat) : Int) ∧ Below V3.heap.size V3 wr ∧ Blk wr V3.heap.size 3 (numC np own) ∧ Blk wr V5.heap.size 3 (numC np (upd (bT np (bstF np e own) j) i (mxI e (fun k => own i + bstF np e own k) i (own i) c))))
                  case atStart =>
                    refine ⟨0, rfl, Nat.zero_le _, by simp, B1.out.2.2.1, B1.out.2.2.2.1, ?_⟩
                    have e1 := B1.out.2.2.2.2.2.2
                    subst e1
                    exact B1.out.2.2.2.2.1
                  case round =>
                    obtain ⟨c', hq, hc, rfl, hbel, hat, hbt⟩ := hrel
                    obtain ⟨k, hk⟩ : ∃ k : Nat, k = i + 1 + c' := ⟨_, rfl⟩
                    rw [← hk]
                    have hnpj : np = i + 1 + j := by have := B1.out.2.2.2.2.2.1; omega
                    have hk6 : k ≤ 100 := by omega
                    have hoi2 := O.out.1.own_
                    have hbx : ∀ y, y < np → bstF np e own y ≤ 64000 := fun y hy => Nat.le_trans (O.out.1.best y hy) O.out.1.xle
                    have hM : mxI e (fun k => own i + bstF np e own k) i (own i) c' ≤ 65000 := mxI_le (by have := hoi2 i; omega) (fun d hd => by
                      have := hoi2 i
                      have := hbx (i + 1 + d) (by omega)
                      omega)
                    have ci := hbt.cell' (vecC_at (fun k' => .int .i64 ((upd (bT np (bstF np e own) j) i (mxI e (fun k => own i + bstF np e own k) i (own i) c') k' : Nat) : Int)) hin)
                    rw [upd_same] at ci
                    have lb := hbt.lt
                    by_cases hcj : c' < j
                    · have hkn : k < np := by omega
                      have hkn' : (k : Int) < (np : Int) := by omega
                      have hki : k ≠ i := by omega
                      have hce := (S.out.2.2.2.2.2.2.1).below hbel
                      rw [HLE.out] at hce
                      have hlk := linked_law (np : Int) L i k hL6 Ac cc wr hce
                      rw [← HLE.out] at hlk
                      have hiff : (i, k) ∈ L ↔ e i k = true := by
                        rw [O.out.2.2.2.1]
                        exact ⟨fun h => (mem_condTo.1 h).2.2.2, fun h => mem_condTo.2 ⟨hin, hkn, fun h => hki h.symm, h⟩⟩
                      have kc := (S.out.2.2.2.2.2.1).call hbel
                      have q0 := kc.cell' (i := 0) rfl
                      have q1 := kc.cell' (i := 1) rfl
                      have ql := kc.lt
                      have hst : mxI e (fun k => own i + bstF np e own k) i (own i) (c' + 1) = if e i k = true then max (mxI e (fun k => own i + bstF np e own k) i (own i) c') (own i + bstF np e own k) else mxI e (fun k => own i + bstF np e own k) i (own i) c' := by rw [hk]; rfl
                      have hbk : upd (bT np (bstF np e own) j) i (mxI e (fun k => own i + bstF np e own k) i (own i) c') k = bstF np e own k := by
                        rw [upd_other _ _ hki]; unfold bT; rw [if_pos (by omega)]
                      have ck := hbt.cell' (vecC_at (fun k' => .int .i64 ((upd (bT np (bstF np e own) j) i (mxI e (fun k => own i + bstF np e own k) i (own i) c') k' : Nat) : Int)) hkn)
                      rw [hbk] at ck
                      have hbkx := hbx k hkn
                      obtain ⟨M, hMe⟩ : ∃ x, x = mxI e (fun k => own i + bstF np e own k) i (own i) c' := ⟨_, rfl⟩
                      obtain ⟨bk, hbke⟩ : ∃ x, x = bstF np e own k := ⟨_, rfl⟩
                      rw [← hMe] at ci hM
                      rw [← hMe, ← hbke] at hst
                      rw [← hbke] at ck hbkx
                      have hM' : (M : Int) ≤ 65000 := by omega
                      have hbk' : (bk : Int) ≤ 64000 := by omega
                      have co := hat.cell' (vecC_at (fun k' => .int .i64 ((own k' : Nat) : Int)) hin)
                      have lo := hat.lt
                      have fb := hbt.frozen i
                      have hoi3 := hoi2 i
                      obtain ⟨ow, howe⟩ : ∃ x, x = own i := ⟨_, rfl⟩
                      rw [← howe] at co hoi3
                      have how' : (ow : Int) ≤ 1000 := by omega
                      have ws : IntKind.i64.wrap ((ow : Int) + (bk : Int)) = (ow : Int) + (bk : Int) := IntWalk.i64_in _ (by omega)
                      cases he : e i k with
                      | true =>
                        rw [decide_eq_true (hiff.2 he)] at hlk
                        rw [he, if_pos rfl] at hst
                        have B2 := Lib.hid (And.intro hq (And.intro hbel (And.intro hat (And.intro hbt (And.intro hst (And.intro hlk (And.intro hk (And.intro hMe howe))))))))
                        clear hq hbel hat hbt hst hlk hk hMe howe hbke hiff he hce kc hbk hoi2 hbx hnpj
                        go_wp2_with (fail)
                        refine B2.out.2.2.2.2.2.1.mono ?_
                        rintro e2 w2 ⟨rfl, h2⟩
                        have hat2 := B2.out.2.2.1.call h2
                        have hbt2 := B2.out.2.2.2.1.call h2
                        have co2 := (h2.cell (p := ⟨V3.heap.size, i, none⟩) lo).trans co
                        have ci2 := (h2.cell (p := ⟨V5.heap.size, i, none⟩) lb).trans ci
                        have ck2 := (h2.cell (p := ⟨V5.heap.size, k, none⟩) lb).trans ck
                        have fb2 := (h2.frozen (p := ⟨V5.heap.size, i, none⟩) lb).trans fb
                        have lo2 := hat2.lt
                        have lb2 := hbt2.lt
                        have T := Lib.hid (And.intro (gr_call B2.out.2.1 h2) (And.intro hat2 hbt2))
                        clear h2 hat2 hbt2 co ci ck fb lo lb q0 q1 ql
                        go_wp2_with (fail)
                        go_region
                        go_wp2_with (fail)
                        go_roundg (j - (c' + 1))
                        case measure => have := B2.out.1; omega
                        case rel =>
                          have ho : max (M : Int) ((ow : Int) + (bk : Int)) = ((max M (ow + bk) : Nat) : Int) := by omega
                          rw [ho]
                          have hbb := gr_set T.out.1 (p := ⟨V5.heap.size, i, none⟩) (by have := F2.out.1.size; exact this) (.int .i64 ((max M (ow + bk) : Nat) : Int))
                          refine ⟨c' + 1, rfl, hcj, by rw [B2.out.2.2.2.2.2.2.1]; simp; omega, ⟨hbb.os, hbb.tape, hbb.output, hbb.size, hbb.block⟩, (T.out.2.1.far (p := ⟨V5.heap.size, i, none⟩) (by show V3.heap.size ≠ V5.heap.size; omega) _).drewN _, ?_⟩
                          have h9 := T.out.2.2.set_ i (.int .i64 ((max M (ow + bk) : Nat) : Int))
                          rw [numC_set (f := upd (bT np (bstF np e own) j) i (mxI e (fun k => own i + bstF np e own k) i (own i) c')) (g := upd (bT np (bstF np e own) j) i (max M (ow + bk))) hin (upd_same _ _ _) (fun y _ hy => by rw [upd_other _ _ hy, upd_other _ _ hy])] at h9
                          rw [B2.out.2.2.2.2.1, ← B2.out.2.2.2.2.2.2.2.2]
                          exact h9.drewN _
                      | false =>
                        rw [decide_eq_false (fun h => by have := hiff.1 h; rw [he] at this; cases this)] at hlk
                        rw [he, if_neg (by decide)] at hst
                        have B2 := Lib.hid (And.intro hq (And.intro hbel (And.intro hat (And.intro hbt (And.intro hst (And.intro hlk (And.intro hk hMe)))))))
                        clear hq hbel hat hbt hst hlk hk hMe howe hbke hiff he hce kc hbk hoi2 hbx hnpj
                        go_wp2_with (fail)
                        refine B2.out.2.2.2.2.2.1.mono ?_
                        rintro e2 w2 ⟨rfl, h2⟩
                        have T := Lib.hid (And.intro (gr_call B2.out.2.1 h2) (And.intro (B2.out.2.2.1.call h2) (B2.out.2.2.2.1.call h2)))
                        clear h2 co ci ck fb lo lb q0 q1 ql
                        go_wp2_with (fail)
                        go_roundg (j - (c' + 1))
                        case measure => have := B2.out.1; omega
                        case rel =>
                          refine ⟨c' + 1, rfl, hcj, by rw [B2.out.2.2.2.2.2.2.1]; simp; omega, T.out.1, T.out.2.1, ?_⟩
                          rw [B2.out.2.2.2.2.1, B2.out.2.2.2.2.2.2.2]
                          exact T.out.2.2
                    · have ec : c' = j := by omega
                      subst c'
                      have hkn : k = np := by omega
                      subst k
                      have hMb : mxI e (fun k => own i + bstF np e own k) i (own i) j = bstF np e own i := by
                        rw [bst_at hin, show np - (i + 1) = j by omega]
                      rw [hMb] at ci hbt
                      have hbe := O.out.1.best i hin
                      obtain ⟨bi, hbie⟩ : ∃ x, x = bstF np e own i := ⟨_, rfl⟩
                      rw [← hbie] at ci hbe
                      have hbe' : ¬ ((x : Int) < (bi : Int)) := by omega
                      have hbe2 : ¬ x < bi := by omega
                      have hbt2 : Blk wr V5.heap.size 3 (numC np (bT np (bstF np e own) (j + 1))) := by
                        rw [numC_congr (f := bT np (bstF np e own) (j + 1)) (g := upd (bT np (bstF np e own) j) i (bstF np e own i)) (fun y hy => by
                          by_cases h : y = i
                          · subst h; rw [upd_same]; unfold bT; rw [if_pos (by omega)]
                          · rw [upd_other _ _ h]
                            unfold bT
                            by_cases h1 : np - j ≤ y
                            · rw [if_pos h1, if_pos (by omega)]
                            · rw [if_neg h1, if_neg (by omega)])]
                        exact hbt
                      have B2 := Lib.hid (And.intro hbel (And.intro hat hbt2))
                      clear hq hbel hat hbt hbt2 hMb hbie hoi2 hbx hnpj hM hcj
                      go_wp2_with (fail)
                      go_roundg (np - (j + 1))
                      case measure => have := B1.out.1; omega
                      case rel => exact ⟨j + 1, rfl, hjn, by have := B1.out.2.1; simp; omega, B2.out.1, B2.out.2.1, B2.out.2.2⟩
                · have ej : j = np := by omega
                  subst j
                  have hneg : ((np : Int) - 1 - (np : Int)) = -1 := by omega
                  rw [hneg]
                  have Z := Lib.hid (gr_call (S.out.1) hbel)
                  clear hbel hat hbt hq hjn
                  go_wp2_with (fail)
                  go_ret
                  exact ⟨rfl, Z.out⟩
end Go.Proofs.Ytjgkiiohbceocaa
