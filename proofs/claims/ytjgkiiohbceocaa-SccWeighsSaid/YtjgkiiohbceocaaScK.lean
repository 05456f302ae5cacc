/-
  (*graph).components, walked; conditions: at most 64 nodes.
-/
import Derived.Test.YtjgkiiohbceocaaScJ
import Derived.Deep.WholeRow
namespace Go.Proofs.Ytjgkiiohbceocaa
open Go.RowKit
set_option linter.unusedVariables false
set_option linter.unusedSimpArgs false

/-- A graph that was laid: its links and its number of nodes. -/
structure GrOk (W : World) (bg bl : Nat) (n : Nat) (E : Nat → Nat → Bool) (pv kv : Value) : Prop where
  gr : Blk W bg 69 #[.pointer (some ⟨bl, 0, none⟩), .int .i64 (n : Int), pv, kv]
  ln : Blk W bl 79 (lnkC E (rea n E))
theorem GrOk.below {W W' : World} {bg bl n : Nat} {E : Nat → Nat → Bool} {pv kv : Value} {B : Nat} (h : GrOk W bg bl n E pv kv) (hb : Below B W W') (h1 : bg < B) (h2 : bl < B) : GrOk W' bg bl n E pv kv :=
  ⟨h.gr.below hb h1, h.ln.below hb h2⟩
theorem GrOk.belowX {W W' : World} {bg bl n : Nat} {E : Nat → Nat → Bool} {pv kv : Value} {B s : Nat} (h : GrOk W bg bl n E pv kv) (hb : BelowX B s W W') (h1 : bg < B) (h2 : bl < B) (h3 : bg ≠ s) (h4 : bl ≠ s) : GrOk W' bg bl n E pv kv :=
  ⟨hb.blk h.gr h1 h3, hb.blk h.ln h2 h4⟩
theorem snT_set {T : Nat → Nat → Bool} {i k : Nat} (h : tog T i k = true) (k' : Nat) : snT T i (k + 1) k = true := by
  unfold snT
  rw [decide_eq_true (Nat.lt_succ_self k), h]; simp
theorem snT_far {T : Nat → Nat → Bool} {i k j : Nat} (h : j ≠ k) : snT T i (k + 1) j = snT T i k j := by
  unfold snT
  by_cases hj : j < k
  · rw [decide_eq_true hj, decide_eq_true (show j < k + 1 by omega)]
  · rw [decide_eq_false hj, decide_eq_false (show ¬ j < k + 1 by omega)]
theorem snT_skip {T : Nat → Nat → Bool} {i k : Nat} (h : tog T i k = false) (j : Nat) : snT T i k j = snT T i (k + 1) j := by
  by_cases hj : j = k
  · subst hj
    unfold snT
    rw [h, Bool.and_false, Bool.and_false]
  · exact (snT_far hj).symm
set_option maxRecDepth 100000 in
set_option maxHeartbeats 4000000 in
theorem components_code (n : Nat) (hn : n ≤ 64) (E : Nat → Nat → Bool) (hw : Within n E) (bg bl : Nat) (pv kv : Value) (w : World) (hg : GrOk w bg bl n E pv kv) :
    Calls Try.prog 58 #[.pointer (some ⟨bg, 0, none⟩)] w fun e w' => ∃ v, e = .returned v ∧ OwnLL w' w.heap.size v ((roots n (rea n E)).map (mem_ n (rea n E))) ∧ Below w.heap.size w w' := by
  have hmk := fun W => mk_vec (t := 44) (z := .bool false) Try.underlying44 infoBool rfl (by decide) n (by omega) W
  have c1 := hg.gr.cell' (i := 1) rfl
  have gl := hg.gr.lt
  have ll := hg.ln.lt
  have hn' : (n : Int) ≤ 64 := by omega
  have b0 := gr_alloc (Below.refl w.heap.size w) (.cells (boolC n fun _ => false) 4)
  have k0 := Blk.new w 4 (boolC n fun _ => false)
  have ht : Trans' (rea n E) := fun i j k h1 h2 => rea_trans hw h1 h2
  have hg0 := hg.below b0 gl ll
  have c1' := hg0.gr.cell' (i := 1) rfl
  have G := Lib.hid (And.intro hg (And.intro b0 (And.intro k0 (And.intro ht hw))))
  clear hg hg0 b0 k0 ht hw
  go_enter Try.func58, Try.ntmps58
  go_wp2_with (fail)
  go_loopw [17, 3] (fun iv ov wr => ∃ i : Nat, i ≤ n ∧ iv = .int .i64 (i : Int) ∧ Below w.heap.size w wr ∧ Blk wr w.heap.size 4 (boolC n (sn (rea n E) i)) ∧ OwnLL wr w.heap.size ov ((roots i (rea n E)).map (mem_ n (rea n E)))) (fun iv _ _ => n - (intOf iv).toNat)
  case atStart => exact ⟨0, Nat.zero_le _, rfl, G.out.2.1, G.out.2.2.1, OwnLL.nil _ _⟩
  case round =>
    rename World => wo
    obtain ⟨i, hi, rfl, hbel, hsn, hown⟩ := hrel
    have hlen : ((roots i (rea n E)).map (mem_ n (rea n E))).length ≤ 1000000 := by
      rw [List.length_map]
      exact Nat.le_trans (roots_len i _) (by omega)
    by_cases hlt : i < n
    · have hlt' : (i : Int) < (n : Int) := by omega
      have cs := hsn.cell' (vecC_at (fun k => .bool (sn (rea n E) i k)) hlt)
      have sl := hsn.lt
      cases hs : sn (rea n E) i i with
      | true =>
        rw [hs] at cs
        have B := Lib.hid (And.intro hbel (And.intro hsn (And.intro hown hs)))
        clear hbel hsn hown hs hlen
        go_wp2_with (fail)
        go_roundw
        case rel =>
          refine ⟨i + 1, hlt, rfl, B.out.1, ?_, ?_⟩
          · rw [boolC_congr (f := sn (rea n E) (i + 1)) (g := sn (rea n E) i) (fun j _ => by rw [sn_skip G.out.2.2.2.1 B.out.2.2.2])]
            exact B.out.2.1
          · rw [roots_succ, sn_root, B.out.2.2.2, if_neg (by decide)]
            exact B.out.2.2.1
        case measure => simp [intOf]; omega
      | false =>
        rw [hs] at cs
        have hr : isRoot (rea n E) i = true := by rw [sn_root, hs]; rfl
        have bz := hbel.size
        have B := Lib.hid (And.intro hbel (And.intro hsn (And.intro hown (And.intro hr hlen))))
        clear hbel hsn hown hs hr hlen
        go_wp2_with (fail)
        go_loopw [7, 6] (fun kv lv wr => ∃ k : Nat, i ≤ k ∧ k ≤ n ∧ kv = .int .i64 (k : Int) ∧ BelowX wo.heap.size w.heap.size wo wr ∧ Blk wr w.heap.size 4 (boolC n (snT (rea n E) i k)) ∧ OwnN wr wo.heap.size lv (memT (rea n E) i k)) (fun kv _ _ => n - (intOf kv).toNat)
        case atStart =>
          refine ⟨i, Nat.le_refl _, by omega, rfl, BelowX.refl _ _ _, ?_, ?_⟩
          · rw [boolC_congr (f := snT (rea n E) i i) (g := sn (rea n E) i) (fun j _ => by rw [snT_start B.out.2.2.2.1])]
            exact B.out.2.1
          · rw [memT_start B.out.2.2.2.1]
            exact World.ownsRow_nil _ _ _ _
        case round =>
          obtain ⟨k, hik, hk, rfl, hbx, hsk, hol⟩ := hrel
          have hgi := (G.out.1.below B.out.1 gl ll).belowX hbx (by omega) (by omega) (by omega) (by omega)
          have d1 := hgi.gr.cell' (i := 1) rfl
          have d0 := hgi.gr.cell' (i := 0) rfl
          have dl := hgi.gr.lt
          have sl := hsk.lt
          have hs6 := hbx.size
          by_cases hkn : k < n
          · have hkn' : (k : Int) < (n : Int) := by omega
            have hi6 : i < 64 := by omega
            have hk6 : k < 64 := by omega
            have hf : wr.frozen? ⟨w.heap.size, k, none⟩ = false := hsk.frozen k
            have ck := hsk.cell' (vecC_at (fun j => .bool (snT (rea n E) i k j)) hkn)
            have C := Lib.hid (And.intro hgi (And.intro hbx (And.intro hsk (And.intro hol hik))))
            clear hgi hbx hsk hol
            by_cases hki : k = i
            · have HT := Lib.hid (tog_refl (rea n E) i)
              subst k
              have D := Lib.hid (And.intro (show (wr.alloc (.cells #[.int .i64 (i : Int)] 3)).cell? ⟨wr.heap.size, 0, none⟩ = some (.int .i64 (i : Int)) from (Blk.new wr 3 #[.int .i64 (i : Int)]).cell' rfl) (And.intro (own_below C.out.2.2.2.1 (gr_alloc (Below.refl _ _) (.cells #[.int .i64 (i : Int)] 3)) (Nat.le_refl _)) (And.intro (C.out.2.2.1.alloc (.cells #[.int .i64 (i : Int)] 3)) trivial)))
              go_wp2_with (at_builtin; refine app_one rfl _ _ (t := 25) rfl wo.heap.size Try.underlying25 infoInt rfl (by decide) _ _ _ rfl D.out.2.1 wr.heap.size (.int .i64 (i : Int)) rfl D.out.1 rfl (by have := memT_len (rea n E) i i; omega) (by simp; omega) ?_)
              intro v' w2 hown' hgrow _
              have hf2 : w2.frozen? ⟨w.heap.size, i, none⟩ = false := (D.out.2.2.1.grown hgrow (own_blk_ne D.out.2.1 D.out.2.2.1 (by decide))).frozen i
              have hs2 := D.out.2.2.1.grown hgrow (own_blk_ne D.out.2.1 D.out.2.2.1 (by decide))
              have ck2 := hs2.cell' (vecC_at (fun j => .bool (snT (rea n E) i i j)) hkn)
              have sl2 := hs2.lt
              have F := Lib.hid (And.intro hown' (And.intro hgrow hs2))
              clear hown' hgrow hs2
              go_wp2_with (fail)
              go_roundw
              case rel =>
                have hx2 : BelowX wo.heap.size w.heap.size wo w2 := (C.out.2.1.alloc hs6 (.cells #[.int .i64 (i : Int)] 3)).grown F.out.2.1 (by simp; omega) (fun q hq => (D.out.2.1.lt q hq).1)
                refine ⟨i + 1, by omega, hkn, rfl, hx2.setCell (.inl rfl) _, ?_, ?_⟩
                · rw [← boolC_set (f := snT (rea n E) i i) (g := snT (rea n E) i (i + 1)) hkn (snT_set HT.out i) (fun j _ hj => snT_far hj)]
                  exact F.out.2.2.set_ i (.bool true)
                · have hm : memT (rea n E) i (i + 1) = memT (rea n E) i i ++ [i] := by rw [memT_succ, if_pos HT.out]
                  rw [hm]
                  unfold OwnN
                  rw [natC_snoc, List.length_append]
                  exact own_setCell F.out.1 F.out.2.2 (by decide) _
              case measure => simp [intOf]; omega
            · have hki' : ¬ (k : Int) = (i : Int) := by omega
              have hcl := C.out.1.ln
              cases h1 : rea n E i k with
              | true =>
                cases h2 : rea n E k i with
                | true =>
                  have HT := Lib.hid (show tog (rea n E) i k = true from tog_iff.2 (.inr ⟨h1, h2⟩))
                  have H1 := Lib.hid (And.intro hcl (And.intro h1 h2))
                  clear hki hcl h1 h2
                  have D := Lib.hid (And.intro (show (wr.alloc (.cells #[.int .i64 (k : Int)] 3)).cell? ⟨wr.heap.size, 0, none⟩ = some (.int .i64 (k : Int)) from (Blk.new wr 3 #[.int .i64 (k : Int)]).cell' rfl) (And.intro (own_below C.out.2.2.2.1 (gr_alloc (Below.refl _ _) (.cells #[.int .i64 (k : Int)] 3)) (Nat.le_refl _)) (And.intro (C.out.2.2.1.alloc (.cells #[.int .i64 (k : Int)] 3)) trivial)))
                  go_wp2_with (fail)
                  refine (goes_code bl 79 _ (rea n E) i k _ H1.out.1 (lnkC_reach E (rea n E) hi6) hi6 hk6).mono ?_
                  rintro e W1 ⟨rfl, rfl⟩
                  rw [H1.out.2.1]
                  go_wp2_with (fail)
                  refine (goes_code bl 79 _ (rea n E) k i _ H1.out.1 (lnkC_reach E (rea n E) hk6) hk6 hi6).mono ?_
                  rintro e W1 ⟨rfl, rfl⟩
                  rw [H1.out.2.2]
                  go_wp2_with (at_builtin; refine app_one rfl _ _ (t := 25) rfl wo.heap.size Try.underlying25 infoInt rfl (by decide) _ _ _ rfl D.out.2.1 wr.heap.size (.int .i64 (k : Int)) rfl D.out.1 rfl (by have := memT_len (rea n E) i k; omega) (by simp; omega) ?_)
                  intro v' w2 hown' hgrow _
                  have hf2 : w2.frozen? ⟨w.heap.size, k, none⟩ = false := (D.out.2.2.1.grown hgrow (own_blk_ne D.out.2.1 D.out.2.2.1 (by decide))).frozen k
                  have hs2 := D.out.2.2.1.grown hgrow (own_blk_ne D.out.2.1 D.out.2.2.1 (by decide))
                  have ck2 := hs2.cell' (vecC_at (fun j => .bool (snT (rea n E) i k j)) hkn)
                  have sl2 := hs2.lt
                  have F := Lib.hid (And.intro hown' (And.intro hgrow hs2))
                  clear hown' hgrow hs2
                  go_wp2_with (fail)
                  go_roundw
                  case rel =>
                    have hx2 : BelowX wo.heap.size w.heap.size wo w2 := (C.out.2.1.alloc hs6 (.cells #[.int .i64 (k : Int)] 3)).grown F.out.2.1 (by simp; omega) (fun q hq => (D.out.2.1.lt q hq).1)
                    refine ⟨k + 1, by omega, hkn, rfl, hx2.setCell (.inl rfl) _, ?_, ?_⟩
                    · rw [← boolC_set (f := snT (rea n E) i k) (g := snT (rea n E) i (k + 1)) hkn (snT_set HT.out k) (fun j _ hj => snT_far hj)]
                      exact F.out.2.2.set_ k (.bool true)
                    · have hm : memT (rea n E) i (k + 1) = memT (rea n E) i k ++ [k] := by rw [memT_succ, if_pos HT.out]
                      rw [hm]
                      unfold OwnN
                      rw [natC_snoc, List.length_append]
                      exact own_setCell F.out.1 F.out.2.2 (by decide) _
                  case measure => simp [intOf]; omega
                | false =>
                  have HT := Lib.hid (show tog (rea n E) i k = false from by
                    unfold tog
                    rw [decide_eq_false (fun e => hki e.symm), h2, Bool.and_false]; rfl)
                  have H1 := Lib.hid (And.intro hcl (And.intro h1 h2))
                  clear hki hcl h1 h2
                  go_wp2_with (fail)
                  refine (goes_code bl 79 _ (rea n E) i k _ H1.out.1 (lnkC_reach E (rea n E) hi6) hi6 hk6).mono ?_
                  rintro e W1 ⟨rfl, rfl⟩
                  rw [H1.out.2.1]
                  go_wp2_with (fail)
                  refine (goes_code bl 79 _ (rea n E) k i _ H1.out.1 (lnkC_reach E (rea n E) hk6) hk6 hi6).mono ?_
                  rintro e W1 ⟨rfl, rfl⟩
                  rw [H1.out.2.2]
                  go_wp2_with (fail)
                  go_roundw
                  case rel =>
                    refine ⟨k + 1, by omega, hkn, rfl, C.out.2.1, ?_, ?_⟩
                    · rw [boolC_congr (f := snT (rea n E) i (k + 1)) (g := snT (rea n E) i k) (fun j _ => snT_skip HT.out j)]
                      exact C.out.2.2.1
                    · rw [memT_succ, HT.out, if_neg (by decide)]
                      exact C.out.2.2.2.1
                  case measure => simp [intOf]; omega
              | false =>
                have HT := Lib.hid (show tog (rea n E) i k = false from by
                  unfold tog
                  rw [decide_eq_false (fun e => hki e.symm), h1, Bool.false_and]; rfl)
                have H1 := Lib.hid (And.intro hcl h1)
                clear hki hcl h1
                go_wp2_with (fail)
                refine (goes_code bl 79 _ (rea n E) i k _ H1.out.1 (lnkC_reach E (rea n E) hi6) hi6 hk6).mono ?_
                rintro e W1 ⟨rfl, rfl⟩
                rw [H1.out.2]
                go_wp2_with (fail)
                go_roundw
                case rel =>
                  refine ⟨k + 1, by omega, hkn, rfl, C.out.2.1, ?_, ?_⟩
                  · rw [boolC_congr (f := snT (rea n E) i (k + 1)) (g := snT (rea n E) i k) (fun j _ => snT_skip HT.out j)]
                    exact C.out.2.2.1
                  · rw [memT_succ, HT.out, if_neg (by decide)]
                    exact C.out.2.2.2.1
                case measure => simp [intOf]; omega
          · have ek : k = n := by omega
            subst k
            have hll : OwnLL wr w.heap.size u3 ((roots i (rea n E)).map (mem_ n (rea n E))) := B.out.2.2.1.keep (fun q t cs _ hq ht => hbx.blk hq hq.lt (hq.ne_ B.out.2.1 (by rintro rfl; rcases ht with h | h <;> exact absurd h (by decide))))
            obtain ⟨vs, ho1, ho2⟩ := hll
            obtain ⟨la, lc, rfl⟩ := own_slice hol
            have D := Lib.hid (And.intro (show (wr.alloc (.cells #[(.slice la (memT (rea n E) i n).length lc)] 25)).cell? ⟨wr.heap.size, 0, none⟩ = some (.slice la (memT (rea n E) i n).length lc) from (Blk.new wr 25 #[(.slice la (memT (rea n E) i n).length lc)]).cell' rfl) (And.intro (own_below ho1 (gr_alloc (Below.refl _ _) (.cells #[(.slice la (memT (rea n E) i n).length lc)] 25)) (Nat.le_refl _)) (And.intro (own_below hol (gr_alloc (Below.refl _ _) (.cells #[(.slice la (memT (rea n E) i n).length lc)] 25)) (Nat.le_refl _)) (And.intro (ho2.keep (W' := wr.alloc (.cells #[(.slice la (memT (rea n E) i n).length lc)] 25)) (fun q cs _ hq => hq.alloc _)) (And.intro (hsk.alloc (.cells #[(.slice la (memT (rea n E) i n).length lc)] 25)) (And.intro hbx ho2.len))))))
            have hone := own_one hol
            have hlen := B.out.2.2.2.2
            clear hgi hbx hsk hol ho1 ho2
            go_wp2_with (at_builtin; refine app_one rfl _ _ (t := 41) rfl w.heap.size Try.underlying41 infoInts rfl (by decide) _ _ _ rfl D.out.2.1 wr.heap.size (.slice la (memT (rea n E) i n).length lc) rfl D.out.1 hone hlen (by simp; omega) ?_)
            intro v' w2 hown' hgrow _
            have hkeep : ∀ q t cs, Blk (wr.alloc (.cells #[(.slice la (memT (rea n E) i n).length lc)] 25)) q t cs → t ≠ 25 → Blk w2 q t cs := fun q t cs hq ht => hq.grown hgrow (own_blk_ne D.out.2.1 hq (fun e => ht e.symm))
            have F := Lib.hid (And.intro hown' (And.intro hgrow hkeep))
            clear hown' hgrow hkeep
            go_wp2_with (fail)
            go_roundw
            case rel =>
              have hx2 : BelowX wo.heap.size w.heap.size wo (wr.alloc (.cells #[(.slice la (memT (rea n E) i n).length lc)] 25)) := D.out.2.2.2.2.2.1.alloc hs6 _
              have hb2 : Below w.heap.size w (wr.alloc (.cells #[(.slice la (memT (rea n E) i n).length lc)] 25)) := B.out.1.trans (hx2.below bz (Nat.le_refl _))
              refine ⟨i + 1, hlt, rfl, hb2.grown F.out.2.1 (by simp; omega) (fun q hq => (D.out.2.1.lt q hq).1), ?_, ?_⟩
              · rw [boolC_congr (f := sn (rea n E) (i + 1)) (g := snT (rea n E) i n) (fun j hj => (snT_end j hj).symm)]
                exact F.out.2.2 _ _ _ D.out.2.2.2.2.1 (by decide)
              · rw [roots_succ, if_pos B.out.2.2.2.1, List.map_append]
                refine ⟨vs ++ [(.slice la (memT (rea n E) i n).length lc)], ?_, InnN.snoc ?_ (D.out.2.2.2.1.keep (fun q cs _ hq => F.out.2.2 _ _ _ hq (by decide)))⟩
                · rw [List.length_append, List.length_map]
                  exact F.out.1
                · exact own_weaken (own_blks D.out.2.2.1 (fun q cs _ hq => F.out.2.2 _ _ _ hq (by decide))) bz
            case measure => simp [intOf]; omega
    · have ei : i = n := by omega
      subst i
      have B := Lib.hid (And.intro hbel hown)
      clear hbel hsn hown hlen hlt
      go_wp2_with (fail)
      go_ret
      exact ⟨_, rfl, B.out.2, B.out.1⟩
end Go.Proofs.Ytjgkiiohbceocaa
