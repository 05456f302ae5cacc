/-
  The reference's Condense, walked; conditions: at most 1000000 edges.
-/
import Derived.Test.YtjgkiiohbceocaaSdA
namespace Go.Proofs.Ytjgkiiohbceocaa
open Go.RowKit
set_option linter.unusedVariables false
set_option linter.unusedSimpArgs false

theorem range_below {w w' : World} {b o : Nat} {cs : List Value} (h : w.rangeAt b o cs) (hb : Below w.heap.size w w') (hlt : b < w.heap.size) : w'.rangeAt b o cs := fun j v hv => by
  rw [hb.cell (p := ⟨b, o + j, none⟩) hlt]
  exact h j v hv

set_option maxRecDepth 100000 in
set_option maxHeartbeats 8000000 in
theorem condense_ref (n : Int) (l : List Edg) (hl : l.length ≤ 1000000) (A : Option Addr) (c : Nat) (w : World) (hA : Cells w A 2 l.length (edAt l)) :
    Calls Try.prog 34 #[.agg #[.int .i64 n, .slice A l.length c]] w fun e w' => ∃ v, e = .returned (.tuple #[.agg #[.int .i64 (vCondN n l), v], .int .i64 (chkG n l).1]) ∧ EdgsAt w' v (vCond n l) ∧ Below w.heap.size w w' := by
  have b0 := gr_alloc (gr_alloc (Below.refl w.heap.size w) (.cells #[.int .i64 n, .slice A l.length c] 24)) (.cells #[.int .i64 0, .slice none 0 0] 24)
  have k0 : Blk ((w.alloc (.cells #[.int .i64 n, .slice A l.length c] 24)).alloc (.cells #[.int .i64 0, .slice none 0 0] 24)) w.heap.size 24 #[.int .i64 n, .slice A l.length c] := (Blk.new w _ _).alloc _
  have k1 : Blk ((w.alloc (.cells #[.int .i64 n, .slice A l.length c] 24)).alloc (.cells #[.int .i64 0, .slice none 0 0] 24)) (w.heap.size + 1) 24 #[.int .i64 0, .slice none 0 0] := blk_at (by simp)
  have hA0 := hA.below b0
  have hpr := parts_ref n l hl A c _ hA0
  by_cases he : (chkG n l).1 = 0
  · have hN : vCondN n l = ((pV n l).length : Int) := by unfold vCondN; rw [if_pos he]
    have hC : vCond n l = (condV n l).map conE := by unfold vCond; rw [if_pos he]
    have hPV : vParts n l = pV n l := by unfold vParts; rw [if_pos he]
    obtain ⟨m, rfl, hm, hv, hw, ht⟩ := ok_nat he
    have hdi := fun W hW => direct_ref m hm l hl hv A c W hW
    have hR : rR (m : Int) l = rea m (relE l) := by unfold rR; rw [Int.toNat_natCast]
    have hP : pV (m : Int) l = partsV m (rea m (relE l)) := by unfold pV; rw [hR, Int.toNat_natCast]
    have hV : condV (m : Int) l = condL (partsV m (rea m (relE l))).length (edgP (relE l) (partsV m (rea m (relE l)))) := by unfold condV; rw [hP]
    rw [he] at hpr ⊢
    have hpw := parts_what ht hm
    obtain ⟨ls, hls⟩ : ∃ ls, ls = partsV m (rea m (relE l)) := ⟨_, rfl⟩
    rw [← hls] at hP hV hpw
    rw [hPV, hP] at hpr
    obtain ⟨np, hnp⟩ : ∃ np, np = ls.length := ⟨_, rfl⟩
    rw [hN, hC, hP, hV, ← hnp]
    have hnp64 : np ≤ 64 := by rw [hnp]; exact hpw.1
    obtain ⟨ln, hln⟩ : ∃ ln, ln = l.length := ⟨_, rfl⟩
    obtain ⟨ct, hct⟩ : ∃ ct, ct = tabC (relE l) := ⟨_, rfl⟩
    rw [← hct] at hdi
    rw [← hln] at hpr hdi hA0 b0 k0 k1 ⊢
    have hcz : ct.size = 4096 := by rw [hct, tabC_size]
    have hone : ct.all (·.oneCell') = true := by rw [hct]; exact tabC_one _
    have hi2 : (Try.prog.info? 73).map (·.size) = some ct.size := by rw [hcz]; exact infoTab
    have hi1 : (Try.prog.info? 73).map (·.size) = some ct.toList.length := by rw [Array.length_toList]; exact hi2
    have hu73 := Try.underlying73
    have H := Lib.hid (And.intro b0 (And.intro k0 (And.intro k1 (And.intro hA0 (And.intro hpr (And.intro hdi hct))))))
    have M := Lib.hid (And.intro hnp hpw)
    clear b0 k0 k1 hA0 hA hpr hdi hct he hln hl hv hpw hR hP hw ht hN hC hV hnp hls hPV
    go_enter Try.func34, Try.ntmps34
    go_wp2_with (fail)
    refine H.out.2.2.2.2.1.mono ?_
    rintro e W1 ⟨v, rfl, hll, h1⟩
    obtain ⟨pA, pc, rfl, hex⟩ := hll.ex
    have kk := H.out.2.1.call h1
    have r0 := kk.cell' (i := 0) rfl
    have r1 := kk.cell' (i := 1) rfl
    have rl := kk.lt
    have D := Lib.hid (And.intro (gr_call H.out.1 h1) (And.intro (H.out.2.2.1.call h1) (And.intro (H.out.2.2.2.2.2.1 W1 (H.out.2.2.2.1.below h1)) hex)))
    rw [← M.out.1]
    clear h1 kk hll hex
    go_wp2_with (fail)
    refine D.out.2.2.1.mono ?_
    rintro e W2 ⟨rfl, h2⟩
    obtain ⟨wx, hwx, kx, bx⟩ := tab_stored W2 ct hcz
    have thr := tab_there W2 ct hcz
    have h12 : Below W1.heap.size W1 wx := gr_call h2 bx
    have kr := D.out.2.1.call h12
    have kO := Blk.new wx 24 #[.int .i64 (np : Int), .slice none 0 0]
    have hbO := gr_alloc (Below.refl wx.heap.size wx) (.cells #[.int .i64 (np : Int), .slice none 0 0] 24)
    have F := Lib.hid (And.intro h12 (And.intro kx (And.intro kr (And.intro kO hbO))))
    clear h2 bx kx h12 kr kO hbO
    go_wp2_with (refine wpList_store_mid rfl 73 _ _ rfl W2.heap.size 0 ct rfl rfl thr hi2 hone ?_; rw [hwx]; clear thr hi2 hone hwx)
    go_loopg [8] np (fun q iv wr => ∃ i vE, q = np - i ∧ i ≤ np ∧ iv = .int .i64 (i : Int) ∧ Below wx.heap.size wx wr ∧ Blk wr wx.heap.size 24 #[.int .i64 (np : Int), vE] ∧ OwnE wr wx.heap.size vE (condTo np (edgP (relE l) ls) i))
    case atStart => exact ⟨0, _, rfl, Nat.zero_le _, rfl, F.out.2.2.2.2, F.out.2.2.2.1, ownE_nil _ _⟩
    case round =>
      obtain ⟨i, vE, hq, hi, rfl, hbel, hout, hown⟩ := hrel
      by_cases hin : i < np
      · have hi' : (i : Int) < (np : Int) := by omega
        have B := Lib.hid (And.intro hbel (And.intro hout (And.intro hown hq)))
        clear hbel hout hown hq
        go_wp2_with (fail)
        go_loopg [9] np (fun q kv wr => ∃ k vE, q = np - k ∧ k ≤ np ∧ kv = .int .i64 (k : Int) ∧ Below wx.heap.size wx wr ∧ Blk wr wx.heap.size 24 #[.int .i64 (np : Int), vE] ∧ OwnE wr wx.heap.size vE (condTo np (edgP (relE l) ls) i ++ condRow (edgP (relE l) ls) i k))
        case atStart => exact ⟨0, vE, rfl, Nat.zero_le _, rfl, B.out.1, B.out.2.1, by rw [show condRow (edgP (relE l) ls) i 0 = [] from rfl, List.append_nil]; exact B.out.2.2.1⟩
        case round =>
          obtain ⟨k, vE, hq, hk, rfl, hbel, hout, hown⟩ := hrel
          by_cases hkn : k < np
          · have hk' : (k : Int) < (np : Int) := by omega
            have hst := condRow_succ (edgP (relE l) ls) i k
            by_cases hik : i = k
            · have hik' : ((i : Int) != (k : Int)) = false := by rw [hik]; simp
              have hst2 : condRow (edgP (relE l) ls) i (k + 1) = condRow (edgP (relE l) ls) i k := by rw [hst, decide_eq_false (fun h => h hik), Bool.false_and, if_neg (by decide)]
              have P := Lib.hid (And.intro hst2 (And.intro hbel (And.intro hout (And.intro hown hq))))
              clear hst hst2 hbel hout hown hq hik
              go_wp2_with (fail)
              go_region
              all_goals
                go_wp2_with (fail)
                go_roundg (np - (k + 1))
                case measure => have := P.out.2.2.2.2; omega
                case rel =>
                  have h9 := P.out.2.1
                  exact ⟨k + 1, vE, rfl, hkn, rfl, ⟨h9.os, h9.tape, h9.output, h9.size, h9.block⟩, P.out.2.2.1.drew, by rw [P.out.1]; exact own_drewN P.out.2.2.2.1 1⟩
            · have hik' : ((i : Int) != (k : Int)) = true := by simp; omega
              obtain ⟨la, hla⟩ : ∃ x, ls[i]? = some x := ⟨_, List.getElem?_eq_getElem (by rw [← M.out.1]; exact hin)⟩
              obtain ⟨lb, hlb⟩ : ∃ x, ls[k]? = some x := ⟨_, List.getElem?_eq_getElem (by rw [← M.out.1]; exact hkn)⟩
              have hed : edgP (relE l) ls i k = edgL (relE l) la lb := by unfold edgP; rw [hla, hlb]; rfl
              rw [decide_eq_true hik, Bool.true_and, hed] at hst
              obtain ⟨g, rfl, hgl, hcells⟩ := D.out.2.2.2 (fun e => by rw [e] at hla; simp at hla)
              obtain ⟨ua, ca, hua⟩ := hcells i la hla
              obtain ⟨ub, cb, hub⟩ := hcells k lb hlb
              have hW := gr_call F.out.1 hbel
              have cA := (hW.cell (p := ⟨g, i, none⟩) hgl).trans ca
              have cB := (hW.cell (p := ⟨g, k, none⟩) hgl).trans cb
              have hgl' := Nat.lt_of_lt_of_le hgl hW.size
              obtain ⟨hna, hla64, hxa⟩ := M.out.2.2 la (List.mem_of_getElem? hla)
              obtain ⟨hnb, hlb64, hxb⟩ := M.out.2.2 lb (List.mem_of_getElem? hlb)
              have kt := F.out.2.1.call hbel
              have rT := range_blk kt
              have tl := kt.lt
              have hlk := linked_ref (relE l) la lb hna hnb hla64 hlb64 hxa hxb ua ub wr.drew (hua.below (gr_drew hW)) (hub.below (gr_drew hW))
              rw [← H.out.2.2.2.2.2.2] at hlk
              obtain ⟨aA, ac, hua', _⟩ := hua.ex
              obtain ⟨bA, bc, hub', _⟩ := hub.ex
              obtain ⟨n1, hn1⟩ : ∃ n1, ua = .slice aA n1 ac := ⟨_, hua'⟩
              obtain ⟨n2, hn2⟩ : ∃ n2, ub = .slice bA n2 bc := ⟨_, hub'⟩
              subst hn1 hn2
              obtain ⟨rb, hrb⟩ : ∃ rb, rb = edgL (relE l) la lb := ⟨_, rfl⟩
              rw [← hrb] at hlk hst
              have hlk' : Calls Try.prog 56 #[.agg ct, .slice aA n1 ac, .slice bA n2 bc] wr.drew fun e w' => e = .returned (.bool rb) ∧ (Below wr.heap.size wr w' ∧ (w'.rangeAt W2.heap.size 0 ct.toList ∧ w'.cell? ⟨g, i, none⟩ = some (.slice aA n1 ac) ∧ w'.cell? ⟨g, k, none⟩ = some (.slice bA n2 bc))) := by
                refine hlk.mono ?_
                rintro e w' ⟨h5, h6⟩
                have h7 : Below wr.heap.size wr w' := (gr_drew (Below.refl wr.heap.size wr)).trans h6
                exact ⟨h5, h7, range_below rT h7 tl, (h7.cell (p := ⟨g, i, none⟩) hgl').trans cA, (h7.cell (p := ⟨g, k, none⟩) hgl').trans cB⟩
              have P := Lib.hid (And.intro hst (And.intro hbel (And.intro hout (And.intro hown hq))))
              clear hst hbel hout hown hq hcells ca cb hua hub hua' hub' hla hlb hed hna hnb hxa hxb hlk hW kt hrb
              go_wp2_with (fail)
              go_region_held_law (fun w' => w'.rangeAt W2.heap.size 0 ct.toList ∧ w'.cell? ⟨g, i, none⟩ = some (.slice aA n1 ac) ∧ w'.cell? ⟨g, k, none⟩ = some (.slice bA n2 bc))
                (first
                  | assumption
                  | (simp only [World.cell?_drew, World.rangeAt_drew]; (refine ⟨?_, ?_, ?_⟩ <;> assumption)))
                ((go_at_call 56; refine hlk'.mono ?_; rintro e w3 ⟨rfl, h3, hs3⟩))
              have hbel3 := gr_call P.out.2.1 h3
              have hout3 := P.out.2.2.1.call h3
              have hown3 := own_below P.out.2.2.2.1 h3 (Nat.le_refl _)
              have bz3 := hbel3.size
              cases rb with
              | true =>
                have hst := P.out.1
                rw [if_pos rfl] at hst
                have hcl : (condTo np (edgP (relE l) ls) i ++ condRow (edgP (relE l) ls) i k).length ≤ 1000000 := by
                  have h1 : (condTo np (edgP (relE l) ls) i).length ≤ i * np := condTo_len _ _ _
                  have h2 : (condRow (edgP (relE l) ls) i k).length ≤ k := condRow_len _ _ _
                  have h3 : i * np ≤ 64 * 64 := Nat.mul_le_mul (by omega) hnp64
                  rw [List.length_append]
                  omega
                have cO := hout3.cell' (i := 1) rfl
                have fO := hout3.frozen 1
                have lO := hout3.lt
                have hown2 := own_below hown3 (gr_alloc (Below.refl _ _) (.cells #[.int .i64 (i : Int), .int .i64 (k : Int)] 57)) (Nat.le_refl _)
                have G := Lib.hid (And.intro hst (And.intro hbel3 (And.intro hout3 (And.intro hown3 (And.intro hcl hown2)))))
                clear hst hbel3 hout3 hown3 hcl hown2 h3 hs3
                go_wp2_with (at_builtin; refine app_edg rfl _ _ rfl wx.heap.size _ _ rfl G.out.2.2.2.2.2 w3.heap.size i k rfl (Blk.new _ _ _) G.out.2.2.2.2.1 (by simp; omega) ?_)
                intro v' w4 hown' hgrow
                obtain ⟨xa, xc, hv'⟩ := own_slice hown'
                obtain ⟨xl, hxl⟩ : ∃ xl, v' = .slice xa xl xc := ⟨_, hv'⟩
                clear hv'
                subst hxl
                have hka : Blk (w3.alloc (.cells #[.int .i64 (i : Int), .int .i64 (k : Int)] 57)) wx.heap.size 24 #[.int .i64 (np : Int), vE] := G.out.2.2.1.alloc _
                have hkb := hka.grown hgrow (own_blk_ne G.out.2.2.2.2.2 hka (by decide))
                have cO2 := hkb.cell' (i := 1) rfl
                have fO2 := hkb.frozen 1
                have lO2 := hkb.lt
                have L := Lib.hid (And.intro hown' (And.intro ((gr_alloc G.out.2.1 (.cells #[.int .i64 (i : Int), .int .i64 (k : Int)] 57)).grown hgrow (by simp; omega) (fun q hq => (G.out.2.2.2.2.2.lt q hq).1)) hkb))
                clear hown' hgrow hka hkb
                go_wp2_with (fail)
                go_roundg (np - (k + 1))
                case measure => have := P.out.2.2.2.2; omega
                case rel =>
                  refine ⟨k + 1, _, rfl, hkn, rfl, gr_set L.out.2.1 (Nat.le_refl _) _, L.out.2.2.set_ 1 _, ?_⟩
                  have h9 := own_setCell (g := wx.heap.size) (i := 1) L.out.1 L.out.2.2 (by decide) (.slice xa xl xc)
                  rw [G.out.1]
                  first | exact h9 | (rw [← List.append_assoc]; exact h9)
              | false =>
                have hst := P.out.1
                rw [if_neg (by decide)] at hst
                have G := Lib.hid (And.intro hst (And.intro hbel3 (And.intro hout3 hown3)))
                clear hst hbel3 hout3 hown3 h3 hs3
                go_wp2_with (fail)
                go_roundg (np - (k + 1))
                case measure => have := P.out.2.2.2.2; omega
                case rel => exact ⟨k + 1, vE, rfl, hkn, rfl, G.out.2.1, G.out.2.2.1, by rw [G.out.1]; exact G.out.2.2.2⟩
          · have ek : k = np := by omega
            subst k
            have P := Lib.hid (And.intro hbel (And.intro hout (And.intro hown hq)))
            clear hbel hout hown hq hkn
            go_wp2_with (fail)
            go_roundg (np - (i + 1))
            case measure => have := B.out.2.2.2; omega
            case rel => exact ⟨i + 1, vE, rfl, hin, rfl, P.out.1, P.out.2.1, P.out.2.2.1⟩
      · have ei : i = np := by omega
        subst i
        have hbw := gr_call D.out.1 (gr_call F.out.1 hbel)
        have cO := hout.cell' (i := 0) rfl
        have cO1 := hout.cell' (i := 1) rfl
        have lO := hout.lt
        have hkr := F.out.2.2.1.call hbel
        have r0 := hkr.cell' (i := 0) rfl
        have r1 := hkr.cell' (i := 1) rfl
        have f0 := hkr.frozen 0
        have f1 := hkr.frozen 1
        have rl := hkr.lt
        obtain ⟨ea, ec, rfl⟩ := own_slice hown
        have B := Lib.hid (And.intro hbw (And.intro hown hkr))
        clear hbel hout hown hq hbw hkr hin
        go_wp2_with (fail)
        refine bodyPost_ret (v := .tuple #[.agg #[.int .i64 (np : Int), .slice ea (condTo np (edgP (relE l) ls) np).length ec], .int .i64 0]) (by simp [results, Try.results34, go_sem, r0, r1, rl]) rfl ⟨_, rfl, ?_, ?_⟩
        · exact OwnE.at_ (own_setCell (own_setCell B.out.2.1 B.out.2.2 (by decide) _) (B.out.2.2.set_ 0 _) (by decide) _)
        · exact gr_set (gr_set B.out.1 (by simp) _) (by simp) _
  · have hN : vCondN n l = 0 := by unfold vCondN; rw [if_neg he]
    have hC : vCond n l = [] := by unfold vCond; rw [if_neg he]
    rw [hN, hC]
    obtain ⟨E, hE⟩ : ∃ E, E = (chkG n l).1 := ⟨_, rfl⟩
    obtain ⟨ln, hln⟩ : ∃ ln, ln = l.length := ⟨_, rfl⟩
    obtain ⟨pl, hpl⟩ : ∃ pl, pl = vParts n l := ⟨_, rfl⟩
    rw [← hE, ← hpl] at hpr
    rw [← hE] at he ⊢
    rw [← hln] at hpr b0 k1 ⊢
    have H := Lib.hid (And.intro b0 (And.intro k1 hpr))
    have he' : (E != 0) = true := by simpa using he
    clear b0 hpr hA0 hA hE hln hl he hN hC k0 k1 hpl
    go_enter Try.func34, Try.ntmps34
    go_wp2_with (fail)
    refine H.out.2.2.mono ?_
    rintro e W1 ⟨v, rfl, _, h1⟩
    have hkr := H.out.2.1.call h1
    have r0 := hkr.cell' (i := 0) rfl
    have r1 := hkr.cell' (i := 1) rfl
    have f0 := hkr.frozen 0
    have f1 := hkr.frozen 1
    have rl := hkr.lt
    have D := Lib.hid (And.intro (gr_call H.out.1 h1) hkr)
    clear h1 hkr
    go_wp2_with (fail)
    refine bodyPost_ret (v := .tuple #[.agg #[.int .i64 0, .slice none 0 0], .int .i64 E]) (by simp [results, Try.results34, go_sem, r0, r1, rl]) rfl ⟨_, rfl, EdgsAt.nil _, ?_⟩
    exact gr_set (gr_set D.out.1 (by simp) _) (by simp) _
end Go.Proofs.Ytjgkiiohbceocaa
