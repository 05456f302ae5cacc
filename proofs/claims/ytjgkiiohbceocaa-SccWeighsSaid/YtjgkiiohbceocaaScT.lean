/-
  scc.Condense and scc.Levels, walked; conditions: at most 1000000 edges.
  scc.Levels, walked; conditions: at most 1000000 edges.
-/
import Derived.Test.YtjgkiiohbceocaaScR
namespace Go.Proofs.Ytjgkiiohbceocaa
open Go.RowKit
set_option linter.unusedVariables false
set_option linter.unusedSimpArgs false

theorem infoEdge : (Try.prog.info? 57).map (fun i => (i.zero, i.size, i.bytes)) = some (some (.agg #[.int .i64 0, .int .i64 0]), 2, 16) := by kernel_rfl
/-- Pairs of nodes as edges; their cells. -/
def conE (p : Nat × Nat) : Edg := ⟨p.1, p.2⟩
def prC (l : List (Nat × Nat)) : List Value := l.flatMap fun p => [.int .i64 (p.1 : Int), .int .i64 (p.2 : Int)]
theorem prC_len (l : List (Nat × Nat)) : (prC l).length = l.length * 2 := by
  induction l with
  | nil => rfl
  | cons p l ih =>
    show ((prC l).length + 1 + 1) = _
    rw [ih, List.length_cons]
    omega
theorem prC_snoc (l : List (Nat × Nat)) (p : Nat × Nat) : prC (l ++ [p]) = prC l ++ [.int .i64 (p.1 : Int), .int .i64 (p.2 : Int)] := by
  unfold prC
  rw [List.flatMap_append]
  simp
theorem prC_flat (l : List (Nat × Nat)) : prC l = flatC (edAt (l.map conE)) 2 l.length := by
  have key : ∀ (l : List (Nat × Nat)) (t : Nat), t < l.length * 2 → (prC l)[t]? = some (edAt (l.map conE) (t / 2) (t % 2)) := by
    intro l
    induction l with
    | nil => intro t ht; simp at ht
    | cons p l ih =>
      intro t ht
      match t, ht with
      | 0, _ => rfl
      | 1, _ => rfl
      | t + 2, ht =>
        show (prC l)[t]? = some (edAt (conE p :: l.map conE) ((t + 2) / 2) ((t + 2) % 2))
        rw [ih t (by simp at ht; omega), show (t + 2) / 2 = t / 2 + 1 by omega, show (t + 2) % 2 = t % 2 by omega]
        rfl
  apply List.ext_getElem?
  intro t
  by_cases ht : t < l.length * 2
  · rw [key l t ht, flatC_at _ _ _ _ ht]
  · rw [List.getElem?_eq_none (by rw [prC_len]; omega), List.getElem?_eq_none (by rw [flatC_len]; omega)]
abbrev OwnE (W : World) (B : Nat) (v : Value) (l : List (Nat × Nat)) : Prop := W.ownsRow B 57 2 v l.length (prC l)
/-- A list of edges that lies there. -/
def EdgsAt (W : World) (v : Value) (l : List Edg) : Prop := ∃ A c, v = .slice A l.length c ∧ Cells W A 2 l.length (edAt l)
theorem EdgsAt.below {W W' : World} {v : Value} {l : List Edg} (h : EdgsAt W v l) (hb : Below W.heap.size W W') : EdgsAt W' v l := by
  obtain ⟨A, c, h1, h2⟩ := h
  exact ⟨A, c, h1, h2.below hb⟩
theorem EdgsAt.nil (W : World) : EdgsAt W (.slice none 0 0) [] := ⟨none, 0, rfl, fun h => absurd h (Nat.lt_irrefl 0)⟩
theorem OwnE.at_ {W : World} {B : Nat} {v : Value} {l : List (Nat × Nat)} (h : OwnE W B v l) : EdgsAt W v (l.map conE) := by
  have h' := h
  unfold OwnE at h'
  rw [prC_flat] at h'
  obtain ⟨A, c, h1, h2, _⟩ := row_cells (by decide) h'
  exact ⟨A, c, by rw [List.length_map]; exact h1, by rw [List.length_map]; exact h2⟩
theorem ownE_nil (W : World) (B : Nat) : OwnE W B (.slice none 0 0) [] := World.ownsRow_nil _ _ _ _
theorem app_edg {w : World} {ops : Array Oper} {rest : List Oper} {o : Oper} {a : Act} {Q : Exit → Act → World → Prop} (hgd : o.guard = none) (s x : Operand)
    (ho : o.op = .call { callee := .builtin .append, args := #[s, x], argTypes := #[22, 22] }) (base : Nat)
    (v : Value) (l : List (Nat × Nat)) (hs : a.eval s = v) (hown : OwnE w base v l) (g i k : Nat) (hx : a.eval x = .slice (some ⟨g, 0, none⟩) 1 1) (hu : Blk w g 57 #[.int .i64 (i : Int), .int .i64 (k : Int)]) (hn : l.length ≤ 1000000) (hbase : base ≤ w.heap.size)
    (h : ∀ v' w', OwnE w' base v' (l ++ [(i, k)]) → w.grownBy w' v.ownBlock → wpList Try.prog ops Q rest (a.put o.dst v') w') : wpList Try.prog ops Q (o :: rest) a w := by
  obtain ⟨i0, hi, hz0, hz1, hz2⟩ := info_parts infoEdge
  refine wpList_append_own (w := w) hgd s x 22 ho base 57 i0 _ 2 16 Try.underlying22 hi hz0 hz1 hz2 rfl (by decide) v l.length (prC l) hs hown ⟨g, 0, none⟩ 1 1 [.int .i64 (i : Int), .int .i64 (k : Int)] hx rfl ?_ ?_ (by unfold maxLen; omega) (by omega) hbase (fun v' w' h1 h2 _ => h v' w' ?_ h2)
  · intro j y hj
    rw [Addr.add_mid, Nat.zero_add]
    exact hu.cell' (by simpa using hj)
  · intro y hy
    simp at hy
    rcases hy with rfl | rfl <;> rfl
  · unfold OwnE
    rw [prC_snoc, List.length_append]
    exact h1

def condV (n : Int) (l : List Edg) : List (Nat × Nat) := condL (pV n l).length (edgP (relE l) (pV n l))
def vCondN (n : Int) (l : List Edg) : Int := if (chkG n l).1 = 0 then ((pV n l).length : Int) else 0
def vCond (n : Int) (l : List Edg) : List Edg := if (chkG n l).1 = 0 then (condV n l).map conE else []

set_option maxRecDepth 100000 in
set_option maxHeartbeats 4000000 in
theorem condense_code (n : Int) (l : List Edg) (hl : l.length ≤ 1000000) (A : Option Addr) (c : Nat) (w : World) (hA : Cells w A 2 l.length (edAt l)) :
    Calls Try.prog 33 #[.agg #[.int .i64 n, .slice A l.length c]] w fun e w' => ∃ v, e = .returned (.tuple #[.agg #[.int .i64 (vCondN n l), v], .int .i64 (chkG n l).1]) ∧ EdgsAt w' v (vCond n l) ∧ Below w.heap.size w w' := by
  have b0 := gr_alloc (gr_alloc (Below.refl w.heap.size w) (.cells #[.int .i64 n, .slice A l.length c] 24)) (.cells #[.int .i64 0, .slice none 0 0] 24)
  have k0 : Blk ((w.alloc (.cells #[.int .i64 n, .slice A l.length c] 24)).alloc (.cells #[.int .i64 0, .slice none 0 0] 24)) (w.heap.size + 1) 24 #[.int .i64 0, .slice none 0 0] := blk_at (by simp)
  have hA0 := hA.below b0
  by_cases he : (chkG n l).1 = 0
  · have hN : vCondN n l = ((pV n l).length : Int) := by unfold vCondN; rw [if_pos he]
    have hC : vCond n l = (condV n l).map conE := by unfold vCond; rw [if_pos he]
    obtain ⟨m, rfl, hm, hv, hw, ht⟩ := ok_nat he
    have hmd := made_code m hm l hl hv he A c _ hA0
    have hR : rR (m : Int) l = rea m (relE l) := by unfold rR; rw [Int.toNat_natCast]
    have hP : pV (m : Int) l = partsV m (rea m (relE l)) := by unfold pV; rw [hR, Int.toNat_natCast]
    have hV : condV (m : Int) l = condL (partsV m (rea m (relE l))).length (edgP (relE l) (partsV m (rea m (relE l)))) := by unfold condV; rw [hP]
    rw [he]
    have hpw := parts_what ht hm
    obtain ⟨ls, hls⟩ : ∃ ls, ls = partsV m (rea m (relE l)) := ⟨_, rfl⟩
    rw [← hls] at hP hV hpw
    obtain ⟨np, hnp⟩ : ∃ np, np = ls.length := ⟨_, rfl⟩
    rw [hN, hC, hP, hV, ← hnp]
    have hnp64 : np ≤ 64 := by rw [hnp]; exact hpw.1
    have H := Lib.hid (And.intro b0 k0)
    obtain ⟨ln, hln⟩ : ∃ ln, ln = l.length := ⟨_, rfl⟩
    rw [← hln] at hmd H ⊢
    have M := Lib.hid (And.intro hmd (And.intro hpw (And.intro hnp hls)))
    clear b0 k0 hA0 hA hmd he hln hl hv hpw hR hP hw ht hN hC hV hnp hls
    go_enter Try.func33, Try.ntmps33
    go_wp2_with (fail)
    refine M.out.1.mono ?_
    rintro e W1 ⟨bg, bl, pv, kv, rfl, h1, h2⟩
    have hga := h1.at_
    rw [← M.out.2.2.2] at hga
    obtain ⟨pA, pc, rfl, _⟩ := hga.ll.ex
    have c2 := h1.gr.gr.cell' (i := 2) rfl
    have lg := h1.gr.gr.lt
    have kr := H.out.2.call h2
    rw [← M.out.2.2.1] at c2 hga
    have D := Lib.hid (And.intro hga (And.intro (gr_call H.out.1 h2) kr))
    clear h1 h2 hga kr
    go_wp2_with (fail)
    have kO := Blk.new W1 24 #[.int .i64 (np : Int), .slice none 0 0]
    have hbO := gr_alloc (Below.refl W1.heap.size W1) (.cells #[.int .i64 (np : Int), .slice none 0 0] 24)
    go_loopg [29] np (fun q iv wr => ∃ i vE, q = np - i ∧ i ≤ np ∧ iv = .int .i64 (i : Int) ∧ Below W1.heap.size W1 wr ∧ Blk wr W1.heap.size 24 #[.int .i64 (np : Int), vE] ∧ OwnE wr W1.heap.size vE (condTo np (edgP (relE l) ls) i))
    case atStart => exact ⟨0, _, rfl, Nat.zero_le _, rfl, hbO, kO, ownE_nil _ _⟩
    case round =>
      obtain ⟨i, vE, hq, hi, rfl, hbel, hout, hown⟩ := hrel
      by_cases hin : i < np
      · have hi' : (i : Int) < (np : Int) := by omega
        have c2' := (D.out.1.below hbel).gr.gr.cell' (i := 2) rfl
        have lg' := (D.out.1.below hbel).gr.gr.lt
        have B := Lib.hid (And.intro hbel (And.intro hout (And.intro hown hq)))
        clear hbel hout hown hq
        go_wp2_with (fail)
        go_loopg [37] np (fun q kv wr => ∃ k vE, q = np - k ∧ k ≤ np ∧ kv = .int .i64 (k : Int) ∧ Below W1.heap.size W1 wr ∧ Blk wr W1.heap.size 24 #[.int .i64 (np : Int), vE] ∧ OwnE wr W1.heap.size vE (condTo np (edgP (relE l) ls) i ++ condRow (edgP (relE l) ls) i k))
        case atStart => exact ⟨0, vE, rfl, Nat.zero_le _, rfl, B.out.1, B.out.2.1, by rw [show condRow (edgP (relE l) ls) i 0 = [] from rfl, List.append_nil]; exact B.out.2.2.1⟩
        case round =>
          obtain ⟨k, vE, hq, hk, rfl, hbel, hout, hown⟩ := hrel
          have hgw := D.out.1.below hbel
          have c2' := hgw.gr.gr.cell' (i := 2) rfl
          have lg' := hgw.gr.gr.lt
          by_cases hkn : k < np
          · have hk' : (k : Int) < (np : Int) := by omega
            have hst := condRow_succ (edgP (relE l) ls) i k
            by_cases hik : i = k
            · have hik' : ((i : Int) != (k : Int)) = false := by rw [hik]; simp
              have hst2 : condRow (edgP (relE l) ls) i (k + 1) = condRow (edgP (relE l) ls) i k := by rw [hst, decide_eq_false (fun h => h hik), Bool.false_and, if_neg (by decide)]
              have F := Lib.hid (And.intro hst2 (And.intro hbel (And.intro hout (And.intro hown hq))))
              clear hst hst2 hbel hout hown hq hgw hik
              go_wp2_with (fail)
              go_roundg (np - (k + 1))
              case measure => have := F.out.2.2.2.2; omega
              case rel => exact ⟨k + 1, vE, rfl, hkn, rfl, F.out.2.1, F.out.2.2.1, by rw [F.out.1]; exact F.out.2.2.2.1⟩
            · have hik' : ((i : Int) != (k : Int)) = true := by simp; omega
              have hed := edge_code m hm (relE l) ls (by have := M.out.2.1.1; exact this) (fun q hq => M.out.2.1.2 q hq) bg bl i k (by rw [← M.out.2.2.1]; exact hin) (by rw [← M.out.2.2.1]; exact hkn) _ _ wr hgw
              rw [decide_eq_true hik, Bool.true_and] at hst
              cases hr : edgP (relE l) ls i k with
              | true =>
                rw [hr] at hst hed
                rw [if_pos rfl] at hst
                have hcl : (condTo np (edgP (relE l) ls) i ++ condRow (edgP (relE l) ls) i k).length ≤ 1000000 := by
                  have h1 : (condTo np (edgP (relE l) ls) i).length ≤ i * np := condTo_len _ _ _
                  have h2 : (condRow (edgP (relE l) ls) i k).length ≤ k := condRow_len _ _ _
                  have h3 : i * np ≤ 64 * 64 := Nat.mul_le_mul (by omega) hnp64
                  rw [List.length_append]
                  omega
                have cO := hout.cell' (i := 1) rfl
                have fO := hout.frozen 1
                have lO := hout.lt
                have bz := hbel.size
                have hown2 := own_below hown (gr_alloc (Below.refl _ _) (.cells #[.int .i64 (i : Int), .int .i64 (k : Int)] 57)) (Nat.le_refl _)
                have F := Lib.hid (And.intro hst (And.intro hbel (And.intro hout (And.intro hown (And.intro hq (And.intro hed (And.intro hcl hown2)))))))
                clear hst hbel hout hown hq hgw hed hcl hown2 hr
                go_wp2_with (fail)
                refine F.out.2.2.2.2.2.1.mono ?_
                rintro e W2 ⟨rfl, rfl⟩
                go_wp2_with (at_builtin; refine app_edg rfl _ _ rfl W1.heap.size _ _ rfl F.out.2.2.2.2.2.2.2 wr.heap.size i k rfl (Blk.new _ _ _) F.out.2.2.2.2.2.2.1 (by simp; omega) ?_)
                intro v' w2 hown' hgrow
                obtain ⟨xa, xc, hv'⟩ := own_slice hown'
                obtain ⟨xl, hxl⟩ : ∃ xl, v' = .slice xa xl xc := ⟨_, hv'⟩
                clear hv'
                subst hxl
                have hka : Blk (wr.alloc (.cells #[.int .i64 (i : Int), .int .i64 (k : Int)] 57)) W1.heap.size 24 #[.int .i64 (np : Int), vE] := F.out.2.2.1.alloc _
                have hkb := hka.grown hgrow (own_blk_ne F.out.2.2.2.2.2.2.2 hka (by decide))
                have cO2 := hkb.cell' (i := 1) rfl
                have fO2 := hkb.frozen 1
                have lO2 := hkb.lt
                have L := Lib.hid (And.intro hown' (And.intro ((gr_alloc F.out.2.1 (.cells #[.int .i64 (i : Int), .int .i64 (k : Int)] 57)).grown hgrow (by simp; omega) (fun q hq => (F.out.2.2.2.2.2.2.2.lt q hq).1)) hkb))
                clear hown' hgrow hka hkb
                go_wp2_with (fail)
                go_roundg (np - (k + 1))
                case measure => have := F.out.2.2.2.2.1; omega
                case rel =>
                  refine ⟨k + 1, _, rfl, hkn, rfl, gr_set L.out.2.1 (Nat.le_refl _) _, L.out.2.2.set_ 1 _, ?_⟩
                  have h9 := own_setCell (g := W1.heap.size) (i := 1) L.out.1 L.out.2.2 (by decide) (.slice xa xl xc)
                  rw [F.out.1]
                  first | exact h9 | (rw [← List.append_assoc]; exact h9)
              | false =>
                rw [hr] at hst hed
                rw [if_neg (by decide)] at hst
                have F := Lib.hid (And.intro hst (And.intro hbel (And.intro hout (And.intro hown (And.intro hq hed)))))
                clear hst hbel hout hown hq hgw hed hr
                go_wp2_with (fail)
                refine F.out.2.2.2.2.2.mono ?_
                rintro e W2 ⟨rfl, rfl⟩
                go_wp2_with (fail)
                go_roundg (np - (k + 1))
                case measure => have := F.out.2.2.2.2.1; omega
                case rel => exact ⟨k + 1, vE, rfl, hkn, rfl, F.out.2.1, F.out.2.2.1, by rw [F.out.1]; exact F.out.2.2.2.1⟩
          · have ek : k = np := by omega
            subst k
            have F := Lib.hid (And.intro hbel (And.intro hout (And.intro hown hq)))
            clear hbel hout hown hq hgw hkn
            go_wp2_with (fail)
            go_roundg (np - (i + 1))
            case measure => have := B.out.2.2.2; omega
            case rel => exact ⟨i + 1, vE, rfl, hin, rfl, F.out.1, F.out.2.1, F.out.2.2.1⟩
      · have ei : i = np := by omega
        subst i
        have hbw := gr_call D.out.2.1 hbel
        have cO := hout.cell' (i := 0) rfl
        have cO1 := hout.cell' (i := 1) rfl
        have lO := hout.lt
        have hkr := D.out.2.2.below hbel D.out.2.2.lt
        have r0 := hkr.cell' (i := 0) rfl
        have r1 := hkr.cell' (i := 1) rfl
        have f0 := hkr.frozen 0
        have f1 := hkr.frozen 1
        have rl := hkr.lt
        obtain ⟨ea, ec, rfl⟩ := own_slice hown
        have B := Lib.hid (And.intro hbw (And.intro hown hkr))
        clear hbel hout hown hq hbw hkr hin
        go_wp2_with (fail)
        refine bodyPost_ret (v := .tuple #[.agg #[.int .i64 (np : Int), .slice ea (condTo np (edgP (relE l) ls) np).length ec], .int .i64 0]) (by simp [results, Try.results33, go_sem, r0, r1, rl]) rfl ⟨_, rfl, ?_, ?_⟩
        · exact OwnE.at_ (own_setCell (own_setCell B.out.2.1 B.out.2.2 (by decide) _) (B.out.2.2.set_ 0 _) (by decide) _)
        · exact gr_set (gr_set B.out.1 (by simp) _) (by simp) _
  · have hN : vCondN n l = 0 := by unfold vCondN; rw [if_neg he]
    have hC : vCond n l = [] := by unfold vCond; rw [if_neg he]
    rw [hN, hC]
    have hmd := made_err n l hl A c _ hA0 he
    obtain ⟨E, hE⟩ : ∃ E, E = (chkG n l).1 := ⟨_, rfl⟩
    obtain ⟨ln, hln⟩ : ∃ ln, ln = l.length := ⟨_, rfl⟩
    rw [← hE] at hmd he ⊢
    rw [← hln] at hmd b0 k0 ⊢
    have H := Lib.hid (And.intro b0 (And.intro k0 hmd))
    have he' : (E != 0) = true := by simpa using he
    clear b0 hmd hA0 hA hE hln hl he hN hC k0
    go_enter Try.func33, Try.ntmps33
    go_wp2_with (fail)
    refine H.out.2.2.mono ?_
    rintro e W1 ⟨rfl, h1⟩
    have hkr := H.out.2.1.call h1
    have r0 := hkr.cell' (i := 0) rfl
    have r1 := hkr.cell' (i := 1) rfl
    have f0 := hkr.frozen 0
    have f1 := hkr.frozen 1
    have rl := hkr.lt
    have D := Lib.hid (And.intro (gr_call H.out.1 h1) hkr)
    clear h1 hkr
    go_wp2_with (fail)
    refine bodyPost_ret (v := .tuple #[.agg #[.int .i64 0, .slice none 0 0], .int .i64 E]) (by simp [results, Try.results33, go_sem, r0, r1, rl]) rfl ⟨_, rfl, EdgsAt.nil _, ?_⟩
    exact gr_set (gr_set D.out.1 (by simp) _) (by simp) _
end Go.Proofs.Ytjgkiiohbceocaa
namespace Go.Proofs.Ytjgkiiohbceocaa
open Go.RowKit
set_option linter.unusedVariables false
set_option linter.unusedSimpArgs false

theorem levS_zero {m : Nat} {e : Nat → Nat → Bool} : ∀ {j k : Nat}, k < m - j → levS m e j k = 0
  | 0, _, _ => rfl
  | j + 1, k, h => by
    show upd (levS m e j) (m - 1 - j) _ k = 0
    rw [upd_other _ _ (by omega)]
    exact levS_zero (by omega)
def levelsV (n : Int) (l : List Edg) : List Nat := (List.range n.toNat).map fun k => levF (pV n l).length (edgP (relE l) (pV n l)) (partI n.toNat (rR n l) k)
def vLevels (n : Int) (l : List Edg) : List Nat := if (chkG n l).1 = 0 then levelsV n l else []
/-- What is in the list of levels so far. -/
def lvT (f : Nat → Nat) (p : Nat → Nat) (i : Nat) : List Nat := (List.range i).map fun k => f (p k)
theorem lvT_succ (f p : Nat → Nat) (i : Nat) : lvT f p (i + 1) = lvT f p i ++ [f (p i)] := by
  unfold lvT
  rw [List.range_succ, List.map_append]; rfl
theorem lvT_len (f p : Nat → Nat) (i : Nat) : (lvT f p i).length = i := by simp [lvT]

set_option maxRecDepth 100000 in
set_option maxHeartbeats 4000000 in
theorem levels_code (n : Int) (l : List Edg) (hl : l.length ≤ 1000000) (A : Option Addr) (c : Nat) (w : World) (hA : Cells w A 2 l.length (edAt l)) :
    Calls Try.prog 31 #[.agg #[.int .i64 n, .slice A l.length c]] w fun e w' => ∃ v, e = .returned (.tuple #[v, .int .i64 (chkG n l).1]) ∧ NatsAt w' v (vLevels n l) ∧ Below w.heap.size w w' := by
  have b0 := gr_alloc (Below.refl w.heap.size w) (.cells #[.int .i64 n, .slice A l.length c] 24)
  have hA0 := hA.below b0
  by_cases he : (chkG n l).1 = 0
  · have hC : vLevels n l = levelsV n l := by unfold vLevels; rw [if_pos he]
    obtain ⟨m, rfl, hm, hv, hw, ht⟩ := ok_nat he
    have hmd := made_code m hm l hl hv he A c _ hA0
    have hR : rR (m : Int) l = rea m (relE l) := by unfold rR; rw [Int.toNat_natCast]
    have hP : pV (m : Int) l = partsV m (rea m (relE l)) := by unfold pV; rw [hR, Int.toNat_natCast]
    have hV : levelsV (m : Int) l = lvT (levF (partsV m (rea m (relE l))).length (edgP (relE l) (partsV m (rea m (relE l))))) (partI m (rea m (relE l))) m := by unfold levelsV; rw [hP, hR, Int.toNat_natCast]; rfl
    rw [he]
    have hpw := parts_what ht hm
    obtain ⟨ls, hls⟩ : ∃ ls, ls = partsV m (rea m (relE l)) := ⟨_, rfl⟩
    rw [← hls] at hV hpw
    obtain ⟨np, hnp⟩ : ∃ np, np = ls.length := ⟨_, rfl⟩
    have hpl : ∀ k, k < m → partI m (rea m (relE l)) k < np := by
      intro k hk
      have := partI_lt ht hk
      rw [hnp, hls]
      unfold partsV
      rw [List.length_map]
      exact this
    rw [hC, hV, ← hnp]
    have hnp64 : np ≤ 64 := by rw [hnp]; exact hpw.1
    have hmk := fun W => mk_vec (t := 25) (z := .int .i64 0) Try.underlying25 infoInt rfl (by decide) np (by omega) W
    have H := Lib.hid b0
    obtain ⟨ln, hln⟩ : ∃ ln, ln = l.length := ⟨_, rfl⟩
    rw [← hln] at hmd H ⊢
    have M := Lib.hid (And.intro hmd (And.intro hpw (And.intro hnp (And.intro hls hpl))))
    clear b0 hA0 hA hmd he hln hl hv hpw hR hP hw ht hC hV hnp hls hpl
    go_enter Try.func31, Try.ntmps31
    go_wp2_with (fail)
    refine M.out.1.mono ?_
    rintro e W1 ⟨bg, bl, pv, kv, rfl, h1, h2⟩
    have hga := h1.at_
    rw [← M.out.2.2.2.1] at hga
    obtain ⟨bp, hkv, hbp⟩ := h1.part
    subst hkv
    obtain ⟨pA, pc, rfl, _⟩ := hga.ll.ex
    have c2 := h1.gr.gr.cell' (i := 2) rfl
    have lg := h1.gr.gr.lt
    rw [← M.out.2.2.1] at c2 hga
    have kL := Blk.new W1 3 (numC np fun _ => 0)
    have hbL := gr_alloc (Below.refl W1.heap.size W1) (.cells (numC np fun _ => 0) 3)
    have hga2 := hga.below hbL
    have c2b := hga2.gr.gr.cell' (i := 2) rfl
    have lgb := hga2.gr.gr.lt
    have D := Lib.hid (And.intro hga (And.intro (gr_call H.out h2) (And.intro hbp (And.intro kL hbL))))
    clear h1 h2 hga hbp kL hbL hga2
    have w1 : IntKind.i64.wrap ((np : Int) - 1) = (np : Int) - 1 := IntWalk.i64_in _ (by omega)
    go_wp2_with (fail)
    go_loopg [7] np (fun q iv wr => ∃ j : Nat, q = np - j ∧ j ≤ np ∧ iv = .int .i64 ((np : Int) - 1 - (j : Int)) ∧ Below W1.heap.size W1 wr ∧ Blk wr W1.heap.size 3 (numC np (levS np (edgP (relE l) ls) j)))
    case atStart => exact ⟨0, rfl, Nat.zero_le _, by simp, D.out.2.2.2.2, D.out.2.2.2.1⟩
    case round =>
      obtain ⟨j, hq, hj, rfl, hbel, hlv⟩ := hrel
      by_cases hjn : j < np
      · obtain ⟨i, hi⟩ : ∃ i : Nat, i = np - 1 - j := ⟨_, rfl⟩
        have hin : i < np := by omega
        have hiI : (np : Int) - 1 - (j : Int) = (i : Int) := by omega
        rw [hiI]
        have hi0 : (0 : Int) ≤ (i : Int) := by omega
        have hi' : (i : Int) < (np : Int) := by omega
        have wi : IntKind.i64.wrap ((i : Int) - 1) = (i : Int) - 1 := IntWalk.i64_in _ (by omega)
        have B := Lib.hid (And.intro hq (And.intro hiI (And.intro hbel (And.intro hlv hi))))
        clear hq hiI hbel hlv hi
        go_wp2_with (fail)
        go_loopg [8] j (fun q kv wr => ∃ d : Nat, q = j - d ∧ d ≤ j ∧ kv = .int .i64 (((i + 1 + d : Nat)) : Int) ∧ Below W1.heap.size W1 wr ∧ Blk wr W1.heap.size 3 (numC np (upd (levS np (edgP (relE l) ls) j) i (mxI (edgP (relE l) ls) (fun k => levS np (edgP (relE l) ls) j k + 1) i 0 d))))
        case atStart =>
          refine ⟨0, rfl, Nat.zero_le _, by simp, B.out.2.2.1, ?_⟩
          rw [numC_congr (f := upd (levS np (edgP (relE l) ls) j) i (mxI (edgP (relE l) ls) (fun k => levS np (edgP (relE l) ls) j k + 1) i 0 0)) (g := levS np (edgP (relE l) ls) j) (fun k _ => by
            by_cases hk : k = i
            · subst hk; rw [upd_same, levS_zero (by have := B.out.2.2.2.2; omega)]; rfl
            · rw [upd_other _ _ hk])]
          exact B.out.2.2.2.1
        case round =>
          obtain ⟨d, hq, hd, rfl, hbel, hlv⟩ := hrel
          have hgw := D.out.1.below hbel
          have c2' := hgw.gr.gr.cell' (i := 2) rfl
          have lg' := hgw.gr.gr.lt
          obtain ⟨k, hk⟩ : ∃ k : Nat, k = i + 1 + d := ⟨_, rfl⟩
          rw [← hk]
          by_cases hkn : k < np
          · have hdj : d < j := by have := B.out.2.2.2.2; omega
            have hk' : (k : Int) < (np : Int) := by omega
            have hed := edge_code m hm (relE l) ls (by have := M.out.2.1.1; exact this) (fun q hq => M.out.2.1.2 q hq) bg bl i k (by rw [← M.out.2.2.1]; exact hin) (by rw [← M.out.2.2.1]; exact hkn) _ _ wr hgw
            have hst : mxI (edgP (relE l) ls) (fun k => levS np (edgP (relE l) ls) j k + 1) i 0 (d + 1) = if edgP (relE l) ls i k = true then max (mxI (edgP (relE l) ls) (fun k => levS np (edgP (relE l) ls) j k + 1) i 0 d) (levS np (edgP (relE l) ls) j k + 1) else mxI (edgP (relE l) ls) (fun k => levS np (edgP (relE l) ls) j k + 1) i 0 d := by
              rw [hk]; rfl
            have ci := hlv.cell' (vecC_at (fun k => .int .i64 ((upd (levS np (edgP (relE l) ls) j) i (mxI (edgP (relE l) ls) (fun k => levS np (edgP (relE l) ls) j k + 1) i 0 d) k : Nat) : Int)) hin)
            have ck := hlv.cell' (vecC_at (fun k => .int .i64 ((upd (levS np (edgP (relE l) ls) j) i (mxI (edgP (relE l) ls) (fun k => levS np (edgP (relE l) ls) j k + 1) i 0 d) k : Nat) : Int)) hkn)
            rw [upd_same] at ci
            rw [upd_other _ _ (show k ≠ i by omega)] at ck
            have hb1 : mxI (edgP (relE l) ls) (fun k => levS np (edgP (relE l) ls) j k + 1) i 0 d ≤ 64 := Nat.le_trans (mxI_le (B := j + 1) (Nat.zero_le _) (fun d' _ => Nat.succ_le_succ (levS_le _ _ j _))) (by omega)
            have hb2 : levS np (edgP (relE l) ls) j k ≤ 64 := Nat.le_trans (levS_le _ _ j k) (by omega)
            have fi := hlv.frozen i
            have ll := hlv.lt
            obtain ⟨x, hx⟩ : ∃ x, x = mxI (edgP (relE l) ls) (fun k => levS np (edgP (relE l) ls) j k + 1) i 0 d := ⟨_, rfl⟩
            obtain ⟨y, hy⟩ : ∃ y, y = levS np (edgP (relE l) ls) j k := ⟨_, rfl⟩
            rw [← hx] at ci hb1
            rw [← hy] at ck hb2
            rw [← hx, ← hy] at hst
            have hx64 : (x : Int) ≤ 64 := by omega
            have hy64 : (y : Int) ≤ 64 := by omega
            cases hr : edgP (relE l) ls i k with
            | true =>
              rw [hr, if_pos rfl] at hst
              rw [hr] at hed
              have F := Lib.hid (And.intro hed (And.intro hst (And.intro hbel (And.intro hlv (And.intro hq (And.intro hk hx))))))
              clear hed hst hbel hlv hq hgw hr hk hx hy hb1 hb2
              go_wp2_with (fail)
              refine F.out.1.mono ?_
              rintro e W2 ⟨rfl, rfl⟩
              go_wp2_with (fail)
              go_region
              go_wp2_with (fail)
              go_roundg (j - (d + 1))
              case measure => have := F.out.2.2.2.2.1; omega
              case rel =>
                have ho : max (x : Int) ((y : Int) + 1) = ((max x (y + 1) : Nat) : Int) := by omega
                rw [ho]
                have hb := gr_set F.out.2.2.1 (p := ⟨W1.heap.size, i, none⟩) (Nat.le_refl _) (.int .i64 ((max x (y + 1) : Nat) : Int))
                refine ⟨d + 1, rfl, hdj, by rw [F.out.2.2.2.2.2.1]; simp; omega, ⟨hb.os, hb.tape, hb.output, hb.size, hb.block⟩, ?_⟩
                rw [F.out.2.1, ← numC_set (f := upd (levS np (edgP (relE l) ls) j) i x) (g := upd (levS np (edgP (relE l) ls) j) i (max x (y + 1))) hin (upd_same _ _ _) (fun k' _ hk' => by rw [upd_other _ _ hk', upd_other _ _ hk'])]
                have h9 := F.out.2.2.2.1.set_ i (.int .i64 ((max x (y + 1) : Nat) : Int))
                rw [F.out.2.2.2.2.2.2]
                rw [← F.out.2.2.2.2.2.2] at h9 ⊢
                exact h9
            | false =>
              rw [hr, if_neg (by decide)] at hst
              rw [hr] at hed
              have F := Lib.hid (And.intro hed (And.intro hst (And.intro hbel (And.intro hlv (And.intro hq (And.intro hk hx))))))
              clear hed hst hbel hlv hq hgw hr hk hx hy hb1 hb2
              go_wp2_with (fail)
              refine F.out.1.mono ?_
              rintro e W2 ⟨rfl, rfl⟩
              go_wp2_with (fail)
              go_roundg (j - (d + 1))
              case measure => have := F.out.2.2.2.2.1; omega
              case rel =>
                refine ⟨d + 1, rfl, hdj, by rw [F.out.2.2.2.2.2.1]; simp; omega, F.out.2.2.1, ?_⟩
                rw [F.out.2.1, F.out.2.2.2.2.2.2]
                exact F.out.2.2.2.1
          · have hdj : d = j := by have := B.out.2.2.2.2; omega
            subst d
            have F := Lib.hid (And.intro hbel (And.intro hlv hq))
            clear hbel hlv hq hgw
            go_wp2_with (fail)
            go_roundg (np - (j + 1))
            case measure => have := B.out.1; omega
            case rel =>
              refine ⟨j + 1, rfl, hjn, by have := B.out.2.1; simp; omega, F.out.1, ?_⟩
              have h9 := F.out.2.1
              rw [B.out.2.2.2.2] at h9
              exact h9
      · have ej : j = np := by omega
        subst j
        rename World => W3
        have hgw := D.out.1.below hbel
        have c1 := hgw.gr.gr.cell' (i := 1) rfl
        have lg' := hgw.gr.gr.lt
        have hbp := D.out.2.2.1.call hbel
        have B := Lib.hid (And.intro hgw (And.intro hbel (And.intro hlv hbp)))
        clear hgw hbel hlv hbp hq hjn
        have hneg : ((np : Int) - 1 - (np : Int)) = -1 := by omega
        rw [hneg]
        go_wp2_with (fail)
        go_loopg [67, 9] m (fun q iv ov wr => ∃ i : Nat, q = m - i ∧ i ≤ m ∧ iv = .int .i64 (i : Int) ∧ Below W3.heap.size W3 wr ∧ OwnN wr W3.heap.size ov (lvT (levF np (edgP (relE l) ls)) (partI m (rea m (relE l))) i))
        case atStart => exact ⟨0, rfl, Nat.zero_le _, rfl, Below.refl _ _, ownN_nil _ _⟩
        case round =>
          obtain ⟨i, hq, hi, rfl, hbel, hown⟩ := hrel
          by_cases him : i < m
          · have him' : (i : Int) < (m : Int) := by omega
            have hgw := B.out.1.below hbel
            have c3 := hgw.gr.gr.cell' (i := 3) rfl
            have lg3 := hgw.gr.gr.lt
            have hpi := M.out.2.2.2.2 i him
            have cp := (B.out.2.2.2.call hbel).cell' (vecC_at (fun k => .int .i64 ((partI m (rea m (relE l)) k : Nat) : Int)) him)
            have cl := (B.out.2.2.1.call hbel).cell' (vecC_at (fun k => .int .i64 ((levS np (edgP (relE l) ls) np k : Nat) : Int)) hpi)
            have lp := (B.out.2.2.2.call hbel).lt
            have ll := (B.out.2.2.1.call hbel).lt
            have hst := lvT_succ (levF np (edgP (relE l) ls)) (partI m (rea m (relE l))) i
            rw [show levF np (edgP (relE l) ls) (partI m (rea m (relE l)) i) = levS np (edgP (relE l) ls) np (partI m (rea m (relE l)) i) from rfl] at hst
            have hlen := lvT_len (levF np (edgP (relE l) ls)) (partI m (rea m (relE l))) i
            obtain ⟨p, hp⟩ : ∃ p, p = partI m (rea m (relE l)) i := ⟨_, rfl⟩
            rw [← hp] at hpi cp cl hst
            obtain ⟨x, hx⟩ : ∃ x, x = levS np (edgP (relE l) ls) np p := ⟨_, rfl⟩
            rw [← hx] at cl hst
            have hp' : (p : Int) < (np : Int) := by omega
            have bz := hbel.size
            have hcl : (lvT (levF np (edgP (relE l) ls)) (partI m (rea m (relE l))) i).length ≤ 1000000 := by omega
            have hown2 := own_below hown (gr_alloc (Below.refl _ _) (.cells #[.int .i64 (x : Int)] 3)) (Nat.le_refl _)
            have hnc : (wr.alloc (.cells #[.int .i64 (x : Int)] 3)).cell? ⟨wr.heap.size, 0, none⟩ = some (.int .i64 (x : Int)) := (Blk.new wr 3 #[.int .i64 (x : Int)]).cell' rfl
            have F := Lib.hid (And.intro hbel (And.intro hown (And.intro hq (And.intro hst (And.intro hown2 (And.intro hnc hcl))))))
            clear hbel hown hq hst hown2 hnc hcl hgw hlen hp hx
            go_wp2_with (at_builtin; refine app_one rfl _ _ (t := 25) rfl W3.heap.size Try.underlying25 infoInt rfl (by decide) _ _ _ rfl F.out.2.2.2.2.1 wr.heap.size (.int .i64 (x : Int)) rfl F.out.2.2.2.2.2.1 rfl F.out.2.2.2.2.2.2 (by simp; omega) ?_)
            intro v' w2 hown' hgrow _
            have L := Lib.hid (And.intro hown' ((gr_alloc F.out.1 (.cells #[.int .i64 (x : Int)] 3)).grown hgrow (by simp; omega) (fun q hq => (F.out.2.2.2.2.1.lt q hq).1)))
            clear hown' hgrow
            go_wp2_with (fail)
            go_roundg (m - (i + 1))
            case measure => have := F.out.2.2.1; omega
            case rel =>
              refine ⟨i + 1, rfl, him, rfl, L.out.2, ?_⟩
              rw [F.out.2.2.2.1]
              unfold OwnN
              rw [natC_snoc, List.length_append]
              exact L.out.1
          · have ei : i = m := by omega
            subst i
            have F := Lib.hid (And.intro hbel hown)
            clear hbel hown hq him
            go_wp2_with (fail)
            go_ret2
            exact ⟨_, rfl, F.out.2.at_, gr_call (gr_call D.out.2.1 B.out.2.1) F.out.1⟩
  · have hC : vLevels n l = [] := by unfold vLevels; rw [if_neg he]
    rw [hC]
    have hmd := made_err n l hl A c _ hA0 he
    obtain ⟨E, hE⟩ : ∃ E, E = (chkG n l).1 := ⟨_, rfl⟩
    obtain ⟨ln, hln⟩ : ∃ ln, ln = l.length := ⟨_, rfl⟩
    rw [← hE] at hmd he ⊢
    rw [← hln] at hmd b0 ⊢
    have H := Lib.hid (And.intro b0 hmd)
    have he' : (E != 0) = true := by simpa using he
    clear b0 hmd hA0 hA hE hln hl he hC
    go_enter Try.func31, Try.ntmps31
    go_wp2_with (fail)
    refine H.out.2.mono ?_
    rintro e W1 ⟨rfl, h1⟩
    have D := Lib.hid (gr_call H.out.1 h1)
    clear h1
    go_wp2_with (fail)
    go_ret2
    exact ⟨_, rfl, NatsAt.nil _, D.out⟩
end Go.Proofs.Ytjgkiiohbceocaa
