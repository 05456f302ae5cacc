/-
  scc.Levels, walked; conditions: at most 1000000 edges.
-/
import Derived.Test.YtjgkiiohbceocaaScS
namespace Go.Proofs.Ytjgkiiohbceocaa
open Go.RowKit
set_option linter.unusedVariables false
set_option linter.unusedSimpArgs false

theorem levS_zero {m : Nat} {e : Nat → Nat → Bool} : ∀ {j k : Nat}, k < m - j → levS m e j k = 0
  | 0, _, _ => rfl
  | j + 1, k, h => by
    show upd (levS m e j) (m - 1 - j) _ k = 0
    rw [upd_other _ _ (by omega)]
    exact levS_zero (by omega)
def levelsV (n : Int) (l : List Edg) : List Nat := (List.range n.toNat).map fun k => levF (pV n l).length (edgP (relE l) (pV n l)) (partI n.toNat (rR n l) k)
def vLevels (n : Int) (l : List Edg) : List Nat := if (chkG n l).1 = 0 then levelsV n l else []
/-- What is in the list of levels so far. -/
def lvT (f : Nat → Nat) (p : Nat → Nat) (i : Nat) : List Nat := (List.range i).map fun k => f (p k)
theorem lvT_succ (f p : Nat → Nat) (i : Nat) : lvT f p (i + 1) = lvT f p i ++ [f (p i)] := by
  unfold lvT
  rw [List.range_succ, List.map_append]; rfl
theorem lvT_len (f p : Nat → Nat) (i : Nat) : (lvT f p i).length = i := by simp [lvT]

set_option maxRecDepth 100000 in
set_option maxHeartbeats 4000000 in
theorem levels_code (n : Int) (l : List Edg) (hl : l.length ≤ 1000000) (A : Option Addr) (c : Nat) (w : World) (hA : Cells w A 2 l.length (edAt l)) :
    Calls Try.prog 31 #[.agg #[.int .i64 n, .slice A l.length c]] w fun e w' => ∃ v, e = .returned (.tuple #[v, .int .i64 (chkG n l).1]) ∧ NatsAt w' v (vLevels n l) ∧ Below w.heap.size w w' := by
  have b0 := gr_alloc (Below.refl w.heap.size w) (.cells #[.int .i64 n, .slice A l.length c] 24)
  have hA0 := hA.below b0
  by_cases he : (chkG n l).1 = 0
  · have hC : vLevels n l = levelsV n l := by unfold vLevels; rw [if_pos he]
    obtain ⟨m, rfl, hm, hv, hw, ht⟩ := ok_nat he
    have hmd := made_code m hm l hl hv he A c _ hA0
    have hR : rR (m : Int) l = rea m (relE l) := by unfold rR; rw [Int.toNat_natCast]
    have hP : pV (m : Int) l = partsV m (rea m (relE l)) := by unfold pV; rw [hR, Int.toNat_natCast]
    have hV : levelsV (m : Int) l = lvT (levF (partsV m (rea m (relE l))).length (edgP (relE l) (partsV m (rea m (relE l))))) (partI m (rea m (relE l))) m := by unfold levelsV; rw [hP, hR, Int.toNat_natCast]; rfl
    rw [he]
    have hpw := parts_what ht hm
    obtain ⟨ls, hls⟩ : ∃ ls, ls = partsV m (rea m (relE l)) := ⟨_, rfl⟩
    rw [← hls] at hV hpw
    obtain ⟨np, hnp⟩ : ∃ np, np = ls.length := ⟨_, rfl⟩
    have hpl : ∀ k, k < m → partI m (rea m (relE l)) k < np := by
      intro k hk
      have := partI_lt ht hk
      rw [hnp, hls]
      unfold partsV
      rw [List.length_map]
      exact this
    rw [hC, hV, ← hnp]
    have hnp64 : np ≤ 64 := by rw [hnp]; exact hpw.1
    have hmk := fun W => mk_vec (t := 25) (z := .int .i64 0) Try.underlying25 infoInt rfl (by decide) np (by omega) W
    have H := Lib.hid b0
    obtain ⟨ln, hln⟩ : ∃ ln, ln = l.length := ⟨_, rfl⟩
    rw [← hln] at hmd H ⊢
    have M := Lib.hid (And.intro hmd (And.intro hpw (And.intro hnp (And.intro hls hpl))))
    clear b0 hA0 hA hmd he hln hl hv hpw hR hP hw ht hC hV hnp hls hpl
    go_enter Try.func31, Try.ntmps31
    go_wp2_with (fail)
    refine M.out.1.mono ?_
    rintro e W1 ⟨bg, bl, pv, kv, rfl, h1, h2⟩
    have hga := h1.at_
    rw [← M.out.2.2.2.1] at hga
    obtain ⟨bp, hkv, hbp⟩ := h1.part
    subst hkv
    obtain ⟨pA, pc, rfl, _⟩ := hga.ll.ex
    have c2 := h1.gr.gr.cell' (i := 2) rfl
    have lg := h1.gr.gr.lt
    rw [← M.out.2.2.1] at c2 hga
    have kL := Blk.new W1 3 (numC np fun _ => 0)
    have hbL := gr_alloc (Below.refl W1.heap.size W1) (.cells (numC np fun _ => 0) 3)
    have hga2 := hga.below hbL
    have c2b := hga2.gr.gr.cell' (i := 2) rfl
    have lgb := hga2.gr.gr.lt
    have D := Lib.hid (And.intro hga (And.intro (gr_call H.out h2) (And.intro hbp (And.intro kL hbL))))
    clear h1 h2 hga hbp kL hbL hga2
    have w1 : IntKind.i64.wrap ((np : Int) - 1) = (np : Int) - 1 := IntWalk.i64_in _ (by omega)
    go_wp2_with (fail)
    go_loopg [7] np (fun q iv wr => ∃ j : Nat, q = np - j ∧ j ≤ np ∧ iv = .int .i64 ((np : Int) - 1 - (j : Int)) ∧ Below W1.heap.size W1 wr ∧ Blk wr W1.heap.size 3 (numC np (levS np (edgP (relE l) ls) j)))
    case atStart => exact ⟨0, rfl, Nat.zero_le _, by simp, D.out.2.2.2.2, D.out.2.2.2.1⟩
    case round =>
      obtain ⟨j, hq, hj, rfl, hbel, hlv⟩ := hrel
      by_cases hjn : j < np
      · obtain ⟨i, hi⟩ : ∃ i : Nat, i = np - 1 - j := ⟨_, rfl⟩
        have hin : i < np := by omega
        have hiI : (np : Int) - 1 - (j : Int) = (i : Int) := by omega
        rw [hiI]
        have hi0 : (0 : Int) ≤ (i : Int) := by omega
        have hi' : (i : Int) < (np : Int) := by omega
        have wi : IntKind.i64.wrap ((i : Int) - 1) = (i : Int) - 1 := IntWalk.i64_in _ (by omega)
        have B := Lib.hid (And.intro hq (And.intro hiI (And.intro hbel (And.intro hlv hi))))
        clear hq hiI hbel hlv hi
        go_wp2_with (fail)
        go_loopg [8] j (fun q kv wr => ∃ d : Nat, q = j - d ∧ d ≤ j ∧ kv = .int .i64 (((i + 1 + d : Nat)) : Int) ∧ Below W1.heap.size W1 wr ∧ Blk wr W1.heap.size 3 (numC np (upd (levS np (edgP (relE l) ls) j) i (mxI (edgP (relE l) ls) (fun k => levS np (edgP (relE l) ls) j k + 1) i 0 d))))
        case atStart =>
          refine ⟨0, rfl, Nat.zero_le _, by simp, B.out.2.2.1, ?_⟩
          rw [numC_congr (f := upd (levS np (edgP (relE l) ls) j) i (mxI (edgP (relE l) ls) (fun k => levS np (edgP (relE l) ls) j k + 1) i 0 0)) (g := levS np (edgP (relE l) ls) j) (fun k _ => by
            by_cases hk : k = i
            · subst hk; rw [upd_same, levS_zero (by have := B.out.2.2.2.2; omega)]; rfl
            · rw [upd_other _ _ hk])]
          exact B.out.2.2.2.1
        case round =>
          obtain ⟨d, hq, hd, rfl, hbel, hlv⟩ := hrel
          have hgw := D.out.1.below hbel
          have c2' := hgw.gr.gr.cell' (i := 2) rfl
          have lg' := hgw.gr.gr.lt
          obtain ⟨k, hk⟩ : ∃ k : Nat, k = i + 1 + d := ⟨_, rfl⟩
          rw [← hk]
          by_cases hkn : k < np
          · have hdj : d < j := by have := B.out.2.2.2.2; omega
            have hk' : (k : Int) < (np : Int) := by omega
            have hed := edge_code m hm (relE l) ls (by have := M.out.2.1.1; exact this) (fun q hq => M.out.2.1.2 q hq) bg bl i k (by rw [← M.out.2.2.1]; exact hin) (by rw [← M.out.2.2.1]; exact hkn) _ _ wr hgw
            have hst : mxI (edgP (relE l) ls) (fun k => levS np (edgP (relE l) ls) j k + 1) i 0 (d + 1) = if edgP (relE l) ls i k = true then max (mxI (edgP (relE l) ls) (fun k => levS np (edgP (relE l) ls) j k + 1) i 0 d) (levS np (edgP (relE l) ls) j k + 1) else mxI (edgP (relE l) ls) (fun k => levS np (edgP (relE l) ls) j k + 1) i 0 d := by
              rw [hk]; rfl
            have ci := hlv.cell' (vecC_at (fun k => .int .i64 ((upd (levS np (edgP (relE l) ls) j) i (mxI (edgP (relE l) ls) (fun k => levS np (edgP (relE l) ls) j k + 1) i 0 d) k : Nat) : Int)) hin)
            have ck := hlv.cell' (vecC_at (fun k => .int .i64 ((upd (levS np (edgP (relE l) ls) j) i (mxI (edgP (relE l) ls) (fun k => levS np (edgP (relE l) ls) j k + 1) i 0 d) k : Nat) : Int)) hkn)
            rw [upd_same] at ci
            rw [upd_other _ _ (show k ≠ i by omega)] at ck
            have hb1 : mxI (edgP (relE l) ls) (fun k => levS np (edgP (relE l) ls) j k + 1) i 0 d ≤ 64 := Nat.le_trans (mxI_le (B := j + 1) (Nat.zero_le _) (fun d' _ => Nat.succ_le_succ (levS_le _ _ j _))) (by omega)
            have hb2 : levS np (edgP (relE l) ls) j k ≤ 64 := Nat.le_trans (levS_le _ _ j k) (by omega)
            have fi := hlv.frozen i
            have ll := hlv.lt
            obtain ⟨x, hx⟩ : ∃ x, x = mxI (edgP (relE l) ls) (fun k => levS np (edgP (relE l) ls) j k + 1) i 0 d := ⟨_, rfl⟩
            obtain ⟨y, hy⟩ : ∃ y, y = levS np (edgP (relE l) ls) j k := ⟨_, rfl⟩
            rw [← hx] at ci hb1
            rw [← hy] at ck hb2
            rw [← hx, ← hy] at hst
            have hx64 : (x : Int) ≤ 64 := by omega
            have hy64 : (y : Int) ≤ 64 := by omega
            cases hr : edgP (relE l) ls i k with
            | true =>
              rw [hr, if_pos rfl] at hst
              rw [hr] at hed
              have F := Lib.hid (And.intro hed (And.intro hst (And.intro hbel (And.intro hlv (And.intro hq (And.intro hk hx))))))
              clear hed hst hbel hlv hq hgw hr hk hx hy hb1 hb2
              go_wp2_with (fail)
              refine F.out.1.mono ?_
              rintro e W2 ⟨rfl, rfl⟩
              go_wp2_with (fail)
              go_region
              go_wp2_with (fail)
              go_roundg (j - (d + 1))
              case measure => have := F.out.2.2.2.2.1; omega
              case rel =>
                have ho : max (x : Int) ((y : Int) + 1) = ((max x (y + 1) : Nat) : Int) := by omega
                rw [ho]
                have hb := gr_set F.out.2.2.1 (p := ⟨W1.heap.size, i, none⟩) (Nat.le_refl _) (.int .i64 ((max x (y + 1) : Nat) : Int))
                refine ⟨d + 1, rfl, hdj, by rw [F.out.2.2.2.2.2.1]; simp; omega, ⟨hb.os, hb.tape, hb.output, hb.size, hb.block⟩, ?_⟩
                rw [F.out.2.1, ← numC_set (f := upd (levS np (edgP (relE l) ls) j) i x) (g := upd (levS np (edgP (relE l) ls) j) i (max x (y + 1))) hin (upd_same _ _ _) (fun k' _ hk' => by rw [upd_other _ _ hk', upd_other _ _ hk'])]
                have h9 := F.out.2.2.2.1.set_ i (.int .i64 ((max x (y + 1) : Nat) : Int))
                rw [F.out.2.2.2.2.2.2]
                rw [← F.out.2.2.2.2.2.2] at h9 ⊢
                exact h9
            | false =>
              rw [hr, if_neg (by decide)] at hst
              rw [hr] at hed
              have F := Lib.hid (And.intro hed (And.intro hst (And.intro hbel (And.intro hlv (And.intro hq (And.intro hk hx))))))
              clear hed hst hbel hlv hq hgw hr hk hx hy hb1 hb2
              go_wp2_with (fail)
              refine F.out.1.mono ?_
              rintro e W2 ⟨rfl, rfl⟩
              go_wp2_with (fail)
              go_roundg (j - (d + 1))
              case measure => have := F.out.2.2.2.2.1; omega
              case rel =>
                refine ⟨d + 1, rfl, hdj, by rw [F.out.2.2.2.2.2.1]; simp; omega, F.out.2.2.1, ?_⟩
                rw [F.out.2.1, F.out.2.2.2.2.2.2]
                exact F.out.2.2.2.1
          · have hdj : d = j := by have := B.out.2.2.2.2; omega
            subst d
            have F := Lib.hid (And.intro hbel (And.intro hlv hq))
            clear hbel hlv hq hgw
            go_wp2_with (fail)
            go_roundg (np - (j + 1))
            case measure => have := B.out.1; omega
            case rel =>
              refine ⟨j + 1, rfl, hjn, by have := B.out.2.1; simp; omega, F.out.1, ?_⟩
              have h9 := F.out.2.1
              rw [B.out.2.2.2.2] at h9
              exact h9
      · have ej : j = np := by omega
        subst j
        rename World => W3
        have hgw := D.out.1.below hbel
        have c1 := hgw.gr.gr.cell' (i := 1) rfl
        have lg' := hgw.gr.gr.lt
        have hbp := D.out.2.2.1.call hbel
        have B := Lib.hid (And.intro hgw (And.intro hbel (And.intro hlv hbp)))
        clear hgw hbel hlv hbp hq hjn
        have hneg : ((np : Int) - 1 - (np : Int)) = -1 := by omega
        rw [hneg]
        go_wp2_with (fail)
        go_loopg [67, 9] m (fun q iv ov wr => ∃ i : Nat, q = m - i ∧ i ≤ m ∧ iv = .int .i64 (i : Int) ∧ Below W3.heap.size W3 wr ∧ OwnN wr W3.heap.size ov (lvT (levF np (edgP (relE l) ls)) (partI m (rea m (relE l))) i))
        case atStart => exact ⟨0, rfl, Nat.zero_le _, rfl, Below.refl _ _, ownN_nil _ _⟩
        case round =>
          obtain ⟨i, hq, hi, rfl, hbel, hown⟩ := hrel
          by_cases him : i < m
          · have him' : (i : Int) < (m : Int) := by omega
            have hgw := B.out.1.below hbel
            have c3 := hgw.gr.gr.cell' (i := 3) rfl
            have lg3 := hgw.gr.gr.lt
            have hpi := M.out.2.2.2.2 i him
            have cp := (B.out.2.2.2.call hbel).cell' (vecC_at (fun k => .int .i64 ((partI m (rea m (relE l)) k : Nat) : Int)) him)
            have cl := (B.out.2.2.1.call hbel).cell' (vecC_at (fun k => .int .i64 ((levS np (edgP (relE l) ls) np k : Nat) : Int)) hpi)
            have lp := (B.out.2.2.2.call hbel).lt
            have ll := (B.out.2.2.1.call hbel).lt
            have hst := lvT_succ (levF np (edgP (relE l) ls)) (partI m (rea m (relE l))) i
            rw [show levF np (edgP (relE l) ls) (partI m (rea m (relE l)) i) = levS np (edgP (relE l) ls) np (partI m (rea m (relE l)) i) from rfl] at hst
            have hlen := lvT_len (levF np (edgP (relE l) ls)) (partI m (rea m (relE l))) i
            obtain ⟨p, hp⟩ : ∃ p, p = partI m (rea m (relE l)) i := ⟨_, rfl⟩
            rw [← hp] at hpi cp cl hst
            obtain ⟨x, hx⟩ : ∃ x, x = levS np (edgP (relE l) ls) np p := ⟨_, rfl⟩
            rw [← hx] at cl hst
            have hp' : (p : Int) < (np : Int) := by omega
            have bz := hbel.size
            have hcl : (lvT (levF np (edgP (relE l) ls)) (partI m (rea m (relE l))) i).length ≤ 1000000 := by omega
            have hown2 := own_below hown (gr_alloc (Below.refl _ _) (.cells #[.int .i64 (x : Int)] 3)) (Nat.le_refl _)
            have hnc : (wr.alloc (.cells #[.int .i64 (x : Int)] 3)).cell? ⟨wr.heap.size, 0, none⟩ = some (.int .i64 (x : Int)) := (Blk.new wr 3 #[.int .i64 (x : Int)]).cell' rfl
            have F := Lib.hid (And.intro hbel (And.intro hown (And.intro hq (And.intro hst (And.intro hown2 (And.intro hnc hcl))))))
            clear hbel hown hq hst hown2 hnc hcl hgw hlen hp hx
            go_wp2_with (at_builtin; refine app_one rfl _ _ (t := 25) rfl W3.heap.size Try.underlying25 infoInt rfl (by decide) _ _ _ rfl F.out.2.2.2.2.1 wr.heap.size (.int .i64 (x : Int)) rfl F.out.2.2.2.2.2.1 rfl F.out.2.2.2.2.2.2 (by simp; omega) ?_)
            intro v' w2 hown' hgrow _
            have L := Lib.hid (And.intro hown' ((gr_alloc F.out.1 (.cells #[.int .i64 (x : Int)] 3)).grown hgrow (by simp; omega) (fun q hq => (F.out.2.2.2.2.1.lt q hq).1)))
            clear hown' hgrow
            go_wp2_with (fail)
            go_roundg (m - (i + 1))
            case measure => have := F.out.2.2.1; omega
            case rel =>
              refine ⟨i + 1, rfl, him, rfl, L.out.2, ?_⟩
              rw [F.out.2.2.2.1]
              unfold OwnN
              rw [natC_snoc, List.length_append]
              exact L.out.1
          · have ei : i = m := by omega
            subst i
            have F := Lib.hid (And.intro hbel hown)
            clear hbel hown hq him
            go_wp2_with (fail)
            go_ret2
            exact ⟨_, rfl, F.out.2.at_, gr_call (gr_call D.out.2.1 B.out.2.1) F.out.1⟩
  · have hC : vLevels n l = [] := by unfold vLevels; rw [if_neg he]
    rw [hC]
    have hmd := made_err n l hl A c _ hA0 he
    obtain ⟨E, hE⟩ : ∃ E, E = (chkG n l).1 := ⟨_, rfl⟩
    obtain ⟨ln, hln⟩ : ∃ ln, ln = l.length := ⟨_, rfl⟩
    rw [← hE] at hmd he ⊢
    rw [← hln] at hmd b0 ⊢
    have H := Lib.hid (And.intro b0 hmd)
    have he' : (E != 0) = true := by simpa using he
    clear b0 hmd hA0 hA hE hln hl he hC
    go_enter Try.func31, Try.ntmps31
    go_wp2_with (fail)
    refine H.out.2.mono ?_
    rintro e W1 ⟨rfl, h1⟩
    have D := Lib.hid (gr_call H.out.1 h1)
    clear h1
    go_wp2_with (fail)
    go_ret2
    exact ⟨_, rfl, NatsAt.nil _, D.out⟩
end Go.Proofs.Ytjgkiiohbceocaa
