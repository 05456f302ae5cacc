/-
  The reference's parts, walked; conditions: at most 64 nodes.
-/
import Derived.Test.YtjgkiiohbceocaaScW
namespace Go.Proofs.Ytjgkiiohbceocaa
open Go.RowKit
set_option linter.unusedVariables false
set_option linter.unusedSimpArgs false

/-- What is marked while a component is gathered. -/
def mrkT (T : Nat → Nat → Bool) (D : Nat → Bool) (r k j : Nat) : Bool := D j || (decide (j < k) && tog T r j)
theorem mrkC_congr {D D' : Nat → Bool} (h : ∀ j, j < 64 → D' j = D j) : mrkC D = mrkC D' := vecC_congr fun j hj => by rw [h j hj]
theorem mrkC_size (D : Nat → Bool) : (mrkC D).size = 64 := vecC_size _ _
theorem firstV_eq {n : Nat} {T : Nat → Nat → Bool} (ht : Trans' T) {left : List Nat} (hl : LeftOk n T left) {D : Nat → Bool} (hD : ∀ k, k < n → D k = doneOf T left k) :
    firstV n T D = match left.find? (freeR T left) with | some r => (r : Int) | none => -1 := by
  unfold firstV
  have : firstR n T D = firstR n T (doneOf T left) := by
    unfold firstR
    have key : ∀ i, i < n → okF n T D i = okF n T (doneOf T left) i := by
      intro i hi
      unfold okF
      rw [hD i hi]
      congr 1
      rw [Bool.eq_iff_iff, List.all_eq_true, List.all_eq_true]
      constructor
      · intro h k hk; have := h k hk; rwa [hD k (List.mem_range.1 hk)] at this
      · intro h k hk; have := h k hk; rwa [← hD k (List.mem_range.1 hk)] at this
    cases e : (List.range n).find? (okF n T (doneOf T left)) with
    | none =>
      rw [List.find?_eq_none] at e ⊢
      intro i hi
      rw [key i (List.mem_range.1 hi)]
      exact e i hi
    | some r =>
      obtain ⟨h1, h2, h3⟩ := find_least e
      exact find_range h1 (by rw [key r h1]; exact h2) (fun i hi => by rw [key i (by omega)]; exact h3 i hi)
  rw [this, first_eq ht hl]
  cases left.find? (freeR T left) <;> rfl
theorem memT_all (n : Nat) (T : Nat → Nat → Bool) (r : Nat) : memT T r n = mem_ n T r := rfl

set_option maxRecDepth 100000 in
set_option maxHeartbeats 8000000 in
theorem partsR_ref (n : Nat) (hn : n ≤ 64) (T : Nat → Nat → Bool) (ht : Trans' T) (ev : Value) (w : World) :
    Calls Try.prog 55 #[.agg #[.int .i64 (n : Int), ev], .agg (tabC T)] w fun e w' => ∃ v, e = .returned v ∧ OwnLL w' w.heap.size v (partsV n T) ∧ Below w.heap.size w w' := by
  have b0 := gr_alloc (gr_alloc (Below.refl w.heap.size w) (.cells #[.int .i64 (n : Int), ev] 24)) (.cells (tabC T) 73)
  have k0 : Blk ((w.alloc (.cells #[.int .i64 (n : Int), ev] 24)).alloc (.cells (tabC T) 73)) w.heap.size 24 #[.int .i64 (n : Int), ev] := (Blk.new w _ _).alloc _
  have k1 : Blk ((w.alloc (.cells #[.int .i64 (n : Int), ev] 24)).alloc (.cells (tabC T) 73)) (w.heap.size + 1) 73 (tabC T) := blk_at (by simp)
  have b2 := gr_alloc b0 (.cells (mrkC fun _ => false) 71)
  have k2 : Blk (((w.alloc (.cells #[.int .i64 (n : Int), ev] 24)).alloc (.cells (tabC T) 73)).alloc (.cells (mrkC fun _ => false) 71)) (w.heap.size + 1 + 1) 71 (mrkC fun _ => false) := blk_at (by simp)
  have hn' : (n : Int) ≤ 64 := by omega
  have K := Lib.hid (And.intro b2 (And.intro (k0.alloc (.cells (mrkC fun _ => false) 71)) (And.intro (k1.alloc (.cells (mrkC fun _ => false) 71)) (And.intro k2 ht))))
  have hi1 : (Try.prog.info? 73).map (·.size) = some (tabC T).toList.length := by rw [Array.length_toList, tabC_size]; exact infoTab
  clear b0 b2 k0 k1 k2 ht
  obtain ⟨ct, hct⟩ : ∃ ct, ct = tabC T := ⟨_, rfl⟩
  have HC := Lib.hid hct
  rw [← hct] at hi1 K ⊢
  clear hct
  have hi71 : (Try.prog.info? 71).map (·.size) = some (mrkC fun _ => false).toList.length := by rw [Array.length_toList, mrkC_size]; exact infoMrk
  have hrN : ∀ c71, (((w.alloc (.cells #[.int .i64 (n : Int), ev] 24)).alloc (.cells ct 73)).alloc (.cells c71 71)).rangeAt (w.heap.size + 1) 0 ct.toList := fun c71 =>
    range_blk (t := 73) ((blk_at (w := w.alloc (.cells #[.int .i64 (n : Int), ev] 24)) (t := 73) (cs := ct) (n := w.heap.size + 1) (by simp)).alloc (.cells c71 71))
  have hrM := range_blk K.out.2.2.2.1
  obtain ⟨X0, hX0⟩ : ∃ X0, (((w.alloc (.cells #[.int .i64 (n : Int), ev] 24)).alloc (.cells ct 73)).alloc (.cells (mrkC fun _ => false) 71)) = X0 := ⟨_, rfl⟩
  rw [hX0] at hrM K
  go_enter Try.func55, Try.ntmps55
  go_wp2_with (first | (refine wpList_load_mid rfl 73 _ rfl (w.heap.size + 1) 0 (by rfl) ct.toList _ (hrN _) Try.underlying73 rfl hi1 ?_; change wpList _ _ _ _ _ (((w.alloc (.cells #[.int .i64 (n : Int), ev] 24)).alloc (.cells ct 73)).alloc (.cells (mrkC fun _ => false) 71)); rw [hX0]; clear hX0) | refine wpList_load_mid rfl 71 _ rfl (w.heap.size + 1 + 1) 0 (by rfl) (mrkC fun _ => false).toList _ hrM Try.underlying71 rfl hi71 ?_)
  have hB0 : w.heap.size + 1 + 1 < X0.heap.size := K.out.2.2.2.1.lt
  have hf0 : ∀ W, Calls Try.prog 66 #[.agg #[.int .i64 (n : Int), ev], .agg ct, .agg (mrkC fun _ => false)] W fun e w' => e = .returned (.int .i64 (firstV n T (fun _ => false))) ∧ Below W.heap.size W w' := by
    intro W
    rw [HC.out]
    exact first_ref n hn T _ ev W
  refine (hf0 X0).mono ?_
  rintro e W1 ⟨rfl, h1⟩
  have h10 := gr_call K.out.1 h1
  have D := Lib.hid (And.intro h10 (And.intro (K.out.2.1.call h1) (And.intro (K.out.2.2.1.call h1) (K.out.2.2.2.1.call h1))))
  clear h1 h10 hf0 hrM hrN
  go_wp2_with (fail)
  go_loopg [7, 5] (roots n T).length (fun q nv ov wr => ∃ left ps Dn, q = left.length ∧ LeftOk n T left ∧ partsR n T = ps ++ ordR T left.length left ∧ (∀ k, k < n → Dn k = doneOf T left k) ∧ nv = .int .i64 (firstV n T Dn) ∧ OwnLL wr w.heap.size ov (ps.map (mem_ n T)) ∧
    Below w.heap.size w wr ∧ Blk wr w.heap.size 24 #[.int .i64 (n : Int), ev] ∧ Blk wr (w.heap.size + 1) 73 ct ∧ Blk wr (w.heap.size + 1 + 1) 71 (mrkC Dn))
  case atStart =>
    refine ⟨roots n T, [], fun _ => false, rfl, LeftOk.roots n T, ?_, fun k hk => (done_start K.out.2.2.2.2 hk).symm, rfl, OwnLL.nil _ _, D.out.1, D.out.2.1, D.out.2.2.1, D.out.2.2.2⟩
    rw [List.nil_append]
    unfold partsR
    rw [ordR_fuel K.out.2.2.2.2 n _ (LeftOk.roots n T) (roots_len n T)]
  case round =>
    obtain ⟨left, ps, Dn, hq, hlo, heq, hDn, rfl, hown, hbel, hg0, hg1, hg2⟩ := hrel
    rename World => wo
    have hfv := firstV_eq K.out.2.2.2.2 hlo hDn
    have hll : left.length ≤ n := by
      have h1 := ordR_len K.out.2.2.2.2 _ _ hlo (Nat.le_refl _)
      have h2 := partsR_len K.out.2.2.2.2 (n := n)
      rw [heq, List.length_append, h1] at h2
      omega
    have hpl : ps.length ≤ n := by
      have h2 := partsR_len K.out.2.2.2.2 (n := n)
      rw [heq, List.length_append] at h2
      omega
    by_cases hne : left = []
    · subst hne
      have hfv' : firstV n T Dn = -1 := hfv
      rw [hfv']
      have he2 : partsR n T = ps := by rw [heq]; exact List.append_nil _
      have B := Lib.hid (And.intro hown (And.intro hbel he2))
      clear hq hlo heq hDn hown hbel hg0 hg1 hg2 hfv hfv' hll hpl he2
      go_wp2_with (fail)
      go_ret
      refine ⟨_, rfl, ?_, B.out.2.1⟩
      unfold partsV
      rw [B.out.2.2]
      exact B.out.1
    · obtain ⟨r, hf1, hf2, hf3⟩ := find_free K.out.2.2.2.2 hne hlo.one
      rw [hf1] at hfv
      have hfv' : firstV n T Dn = (r : Int) := hfv
      rw [hfv']
      have hrn := hlo.lt r hf2
      have hr6 : r < 64 := by omega
      have hr0 : (0 : Int) ≤ (r : Int) := by omega
      have hw2 := hg2.lt
      have l0 := hg0.lt
      have c0 := hg0.cell' (i := 0) rfl
      have B := Lib.hid (And.intro hq (And.intro hlo (And.intro heq (And.intro hDn (And.intro hown (And.intro hbel (And.intro hg0 (And.intro hg1 (And.intro hg2 (And.intro hf1 hf2))))))))))
      clear hq hlo heq hDn hown hbel hg0 hg1 hg2 hfv hfv' hf1 hf2 hf3
      go_wp2_with (fail)
      go_loopg [9, 8] n (fun q kv lv wr => ∃ k : Nat, q = n - k ∧ k ≤ n ∧ kv = .int .i64 (k : Int) ∧ BelowX wo.heap.size (w.heap.size + 1 + 1) wo wr ∧ Blk wr (w.heap.size + 1 + 1) 71 (mrkC (mrkT T Dn r k)) ∧ OwnN wr wo.heap.size lv (memT T r k))
      case atStart =>
        refine ⟨0, rfl, Nat.zero_le _, rfl, BelowX.refl _ _ _, ?_, ownN_nil _ _⟩
        rw [mrkC_congr (D := mrkT T Dn r 0) (D' := Dn) (fun j _ => by unfold mrkT; rw [decide_eq_false (Nat.not_lt_zero j), Bool.false_and, Bool.or_false])]
        exact B.out.2.2.2.2.2.2.2.2.1
      case round =>
        obtain ⟨k, hq, hk, rfl, hbx, hmk, hol⟩ := hrel
        have kk0 := hbx.blk B.out.2.2.2.2.2.2.1 l0 (by omega)
        have kk1 := hbx.blk B.out.2.2.2.2.2.2.2.1 B.out.2.2.2.2.2.2.2.1.lt (by omega)
        have r0 := kk0.cell' (i := 0) rfl
        have rl := kk0.lt
        have hs6 := hbx.size
        by_cases hkn : k < n
        · have hk' : (k : Int) < (n : Int) := by omega
          have hk6 : k < 64 := by omega
          have hk7 : (k : Int) < 64 := by omega
          have rN := range_blk kk1
          have htg : Calls Try.prog 67 #[.agg ct, .int .i64 (r : Int), .int .i64 (k : Int)] wr fun e w' => e = .returned (.bool (tog T r k)) ∧ Below wr.heap.size wr w' := by
            rw [HC.out]
            exact together_ref T r k hr6 hk6 wr
          have C := Lib.hid (And.intro hbx (And.intro hmk (And.intro hol (And.intro htg hq))))
          clear hbx hmk hol htg hq kk0 kk1
          go_wp2_with (refine wpList_load_mid rfl 73 _ rfl (w.heap.size + 1) 0 (by rfl) ct.toList _ rN Try.underlying73 rfl hi1 ?_)
          clear rN
          refine C.out.2.2.2.1.mono ?_
          rintro e W2 ⟨rfl, h2⟩
          have hbx2 : BelowX wo.heap.size (w.heap.size + 1 + 1) wo W2 := C.out.1.trans (BelowX.of_below (h2.mono hs6) _)
          have hmk2 := C.out.2.1.call h2
          have hol2 := own_below C.out.2.2.1 h2 (Nat.le_refl _)
          have hs7 := hbx2.size
          cases htk : tog T r k with
          | true =>
            have F := Lib.hid (And.intro htk (And.intro hbx2 (And.intro hmk2 (And.intro hol2 (And.intro (show (W2.alloc (.cells #[.int .i64 (k : Int)] 3)).cell? ⟨W2.heap.size, 0, none⟩ = some (.int .i64 (k : Int)) from (Blk.new W2 3 #[.int .i64 (k : Int)]).cell' rfl) (And.intro (own_below hol2 (gr_alloc (Below.refl _ _) (.cells #[.int .i64 (k : Int)] 3)) (Nat.le_refl _)) (hmk2.alloc (.cells #[.int .i64 (k : Int)] 3))))))))
            clear htk hbx2 hmk2 hol2 h2
            go_wp2_with (at_builtin; refine app_one rfl _ _ (t := 25) rfl wo.heap.size Try.underlying25 infoInt rfl (by decide) _ _ _ rfl F.out.2.2.2.2.2.1 W2.heap.size (.int .i64 (k : Int)) rfl F.out.2.2.2.2.1 rfl (by have := memT_len T r k; omega) (by simp; omega) ?_)
            intro v' w2 hown' hgrow _
            have hs2 := F.out.2.2.2.2.2.2.grown hgrow (own_blk_ne F.out.2.2.2.2.2.1 F.out.2.2.2.2.2.2 (by decide))
            have hf2 : w2.frozen? ⟨w.heap.size + 1 + 1, k, none⟩ = false := hs2.frozen k
            have ck2 := hs2.cell' (vecC_at (fun j => .bool (mrkT T Dn r k j)) hk6)
            have sl2 := hs2.lt
            have L := Lib.hid (And.intro hown' (And.intro hgrow hs2))
            clear hown' hgrow hs2
            go_wp2_with (fail)
            go_roundg (n - (k + 1))
            case measure => have := C.out.2.2.2.2; omega
            case rel =>
              have hx2 : BelowX wo.heap.size (w.heap.size + 1 + 1) wo w2 := (F.out.2.1.alloc hs7 (.cells #[.int .i64 (k : Int)] 3)).grown L.out.2.1 (by simp; omega) (fun q hq => (F.out.2.2.2.2.2.1.lt q hq).1)
              refine ⟨k + 1, rfl, hkn, rfl, hx2.setCell (.inl rfl) _, ?_, ?_⟩
              · have hb : mrkT T Dn r (k + 1) k = true := by unfold mrkT; rw [decide_eq_true (Nat.lt_succ_self k), F.out.1]; simp
                have he : (mrkC (mrkT T Dn r k)).setIfInBounds k (.bool true) = mrkC (mrkT T Dn r (k + 1)) := vecC_set hk6 (by rw [hb]) (fun j _ hj => by
                  have : mrkT T Dn r (k + 1) j = mrkT T Dn r k j := by
                    unfold mrkT
                    by_cases h1 : j < k
                    · rw [decide_eq_true h1, decide_eq_true (show j < k + 1 by omega)]
                    · rw [decide_eq_false h1, decide_eq_false (show ¬ j < k + 1 by omega)]
                  rw [this])
                rw [← he]
                exact L.out.2.2.set_ k (.bool true)
              · have hm : memT T r (k + 1) = memT T r k ++ [k] := by rw [memT_succ, if_pos F.out.1]
                rw [hm]
                unfold OwnN
                rw [natC_snoc, List.length_append]
                exact own_setCell L.out.1 L.out.2.2 (by decide) _
          | false =>
            have F := Lib.hid (And.intro htk (And.intro hbx2 (And.intro hmk2 hol2)))
            clear htk hbx2 hmk2 hol2 h2
            go_wp2_with (fail)
            go_roundg (n - (k + 1))
            case measure => have := C.out.2.2.2.2; omega
            case rel =>
              refine ⟨k + 1, rfl, hkn, rfl, F.out.2.1, ?_, ?_⟩
              · rw [mrkC_congr (D := mrkT T Dn r (k + 1)) (D' := mrkT T Dn r k) (fun j _ => by
                  unfold mrkT
                  by_cases h1 : j = k
                  · subst h1; rw [F.out.1, Bool.and_false, Bool.and_false]
                  · by_cases h2 : j < k
                    · rw [decide_eq_true h2, decide_eq_true (show j < k + 1 by omega)]
                    · rw [decide_eq_false h2, decide_eq_false (show ¬ j < k + 1 by omega)])]
                exact F.out.2.2.1
              · rw [memT_succ, F.out.1, if_neg (by decide)]
                exact F.out.2.2.2
        · have ek : k = n := by omega
          subst k
          have hown0 : OwnLL wr w.heap.size u5 (ps.map (mem_ n T)) := B.out.2.2.2.2.1.keep (fun q t cs _ hq' ht' => hbx.blk hq' hq'.lt (hq'.ne_ B.out.2.2.2.2.2.2.2.2.1 (by rintro rfl; rcases ht' with h | h <;> exact absurd h (by decide))))
          obtain ⟨vs, ho1, ho2⟩ := hown0
          obtain ⟨la, lc, rfl⟩ := own_slice hol
          rw [List.length_map] at ho1
          have hone := own_one hol
          have al := gr_alloc (Below.refl wr.heap.size wr) (.cells #[.slice la (memT T r n).length lc] 25)
          have C := Lib.hid (And.intro (show (wr.alloc (.cells #[.slice la (memT T r n).length lc] 25)).cell? ⟨wr.heap.size, 0, none⟩ = some (.slice la (memT T r n).length lc) from (Blk.new wr 25 #[.slice la (memT T r n).length lc]).cell' rfl)
            (And.intro (own_below ho1 al (Nat.le_refl _)) (And.intro (own_below hol al (Nat.le_refl _)) (And.intro (ho2.keep (W' := wr.alloc (.cells #[.slice la (memT T r n).length lc] 25)) (fun q cs _ hq => hq.alloc _)) (And.intro (hmk.alloc (.cells #[.slice la (memT T r n).length lc] 25))
            (And.intro (kk0.alloc (.cells #[.slice la (memT T r n).length lc] 25)) (And.intro (kk1.alloc (.cells #[.slice la (memT T r n).length lc] 25)) hbx)))))))
          have hbw := B.out.2.2.2.2.2.1.size
          clear hbx hmk hol ho1 ho2 kk0 kk1 al hq hkn
          go_wp2_with (at_builtin; refine app_one rfl _ _ (t := 41) rfl w.heap.size Try.underlying41 infoInts rfl (by decide) _ _ _ rfl C.out.2.1 wr.heap.size (.slice la (memT T r n).length lc) rfl C.out.1 hone (by omega) (by simp; omega) ?_)
          intro v' w2 hown' hgrow _
          have hkeep : ∀ q t cs, Blk (wr.alloc (.cells #[.slice la (memT T r n).length lc] 25)) q t cs → t ≠ 25 → Blk w2 q t cs := fun q t cs hq ht => hq.grown hgrow (own_blk_ne C.out.2.1 hq (fun e => ht e.symm))
          have e0 := hkeep _ _ _ C.out.2.2.2.2.2.1 (by decide)
          have e1 := hkeep _ _ _ C.out.2.2.2.2.2.2.1 (by decide)
          have e2 := hkeep _ _ _ C.out.2.2.2.2.1 (by decide)
          have hx2 : BelowX wo.heap.size (w.heap.size + 1 + 1) wo (wr.alloc (.cells #[.slice la (memT T r n).length lc] 25)) := C.out.2.2.2.2.2.2.2.alloc hs6 _
          have hb2 : Below w.heap.size w (wr.alloc (.cells #[.slice la (memT T r n).length lc] 25)) := B.out.2.2.2.2.2.1.trans (hx2.below hbw (by omega))
          have hb3 := hb2.grown hgrow (by simp; omega) (fun q hq => (C.out.2.1.lt q hq).1)
          have hll2 : OwnLL w2 w.heap.size v' ((ps ++ [r]).map (mem_ n T)) := by
            rw [List.map_append]
            refine ⟨vs ++ [.slice la (memT T r n).length lc], ?_, InnN.snoc ?_ (C.out.2.2.2.1.keep (fun q cs _ hq => hkeep _ _ _ hq (by decide)))⟩
            · rw [List.length_append, List.length_map]
              exact hown'
            · exact own_weaken (own_blks C.out.2.2.1 (fun q cs _ hq => hkeep _ _ _ hq (by decide))) hbw
          have rA := e0.cell' (i := 0) rfl
          have rB := e0.cell' (i := 1) rfl
          have rl2 := e0.lt
          have rN := range_blk e1
          have rM := range_blk e2
          have hi72 : (Try.prog.info? 71).map (·.size) = some (mrkC (mrkT T Dn r n)).toList.length := by rw [Array.length_toList, mrkC_size]; exact infoMrk
          have hf1' : Calls Try.prog 66 #[.agg #[.int .i64 (n : Int), ev], .agg ct, .agg (mrkC (mrkT T Dn r n))] w2 fun e w' => e = .returned (.int .i64 (firstV n T (mrkT T Dn r n))) ∧ Below w2.heap.size w2 w' := by
            rw [HC.out]
            exact first_ref n hn T _ ev w2
          obtain ⟨va', vc', hv'⟩ := own_slice hown'
          have L := Lib.hid (And.intro hll2 (And.intro hb3 (And.intro e0 (And.intro e1 (And.intro e2 hf1')))))
          clear hown' hgrow hkeep e0 e1 e2 hx2 hb2 hb3 hll2 hf1' hv'
          go_wp2_with (first | refine wpList_load_mid rfl 73 _ rfl (w.heap.size + 1) 0 (by rfl) ct.toList _ rN Try.underlying73 rfl hi1 ?_ | refine wpList_load_mid rfl 71 _ rfl (w.heap.size + 1 + 1) 0 (by rfl) (mrkC (mrkT T Dn r n)).toList _ rM Try.underlying71 rfl hi72 ?_)
          clear rN rM
          refine L.out.2.2.2.2.2.mono ?_
          rintro e W3 ⟨rfl, h3⟩
          have P := Lib.hid (And.intro (L.out.1.below h3) (And.intro (gr_call L.out.2.1 h3) (And.intro (L.out.2.2.1.call h3) (And.intro (L.out.2.2.2.1.call h3) (L.out.2.2.2.2.1.call h3)))))
          clear h3
          go_wp2_with (fail)
          go_roundg (left.erase r).length
          case measure =>
            have h1 := List.length_erase_of_mem B.out.2.2.2.2.2.2.2.2.2.2
            have h2 := List.length_pos_of_mem B.out.2.2.2.2.2.2.2.2.2.2
            have := B.out.1
            omega
          case rel =>
            have hlo := B.out.2.1
            have hrl := B.out.2.2.2.2.2.2.2.2.2.2
            refine ⟨left.erase r, ps ++ [r], mrkT T Dn r n, rfl, hlo.erase r, ?_, fun k hk => ?_, rfl, P.out.1, P.out.2.1, P.out.2.2.1, P.out.2.2.2.1, P.out.2.2.2.2⟩
            · rw [B.out.2.2.1, ordR_step K.out.2.2.2.2 hlo B.out.2.2.2.2.2.2.2.2.2.1, List.append_assoc]; rfl
            · rw [done_next K.out.2.2.2.2 hlo hrl]
              unfold mrkT
              rw [B.out.2.2.2.1 k hk, decide_eq_true hk, Bool.true_and]
end Go.Proofs.Ytjgkiiohbceocaa
