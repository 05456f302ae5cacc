/-
  The reference's table of edges, walked; conditions: a valid graph of at most 1000000 edges.
  The reference's table of what is reached, walked; conditions: a valid graph of at most 1000000 edges.
  The reference's together, first and parts, walked; conditions: at most 64 nodes.
  The reference's parts, walked; conditions: at most 64 nodes.
-/
import Derived.Test.YtjgkiiohbceocaaScT
import Derived.Deep.WholeRow
namespace Go.Proofs.Ytjgkiiohbceocaa
open Go.RowKit
set_option linter.unusedVariables false
set_option linter.unusedSimpArgs false

/-- The cells of a table. -/
def tabC (T : Nat → Nat → Bool) : Array Value := vecC 4096 fun t => .bool (T (t / 64) (t % 64))
theorem tabC_size (T : Nat → Nat → Bool) : (tabC T).size = 4096 := vecC_size _ _
theorem tabC_at (T : Nat → Nat → Bool) {i j : Nat} (hi : i < 64) (hj : j < 64) : (tabC T)[i * 64 + j]? = some (.bool (T i j)) := by
  unfold tabC
  rw [vecC_at _ (show i * 64 + j < 4096 by omega), show (i * 64 + j) / 64 = i by omega, show (i * 64 + j) % 64 = j by omega]
theorem tabC_set {T U : Nat → Nat → Bool} {i j : Nat} {b : Bool} (hi : i < 64) (hj : j < 64) (hb : U i j = b) (h : ∀ a c, ¬ (a = i ∧ c = j) → U a c = T a c) : (tabC T).setIfInBounds (i * 64 + j) (.bool b) = tabC U := by
  unfold tabC
  refine vecC_set (by omega) ?_ (fun t ht hne => ?_)
  · rw [show (i * 64 + j) / 64 = i by omega, show (i * 64 + j) % 64 = j by omega, hb]
  · rw [h _ _ (fun hh => hne (by omega))]
theorem tabC_one (T : Nat → Nat → Bool) : (tabC T).all (·.oneCell') = true := by
  rw [Array.all_eq_true_iff_forall_mem]
  intro v hv
  unfold tabC vecC at hv
  simp at hv
  obtain ⟨t, _, rfl⟩ := hv
  rfl
set_option maxRecDepth 1000000 in
theorem zero_tab : Try.zeroCells73 = tabC noR := by
  have e : tabC noR = ((List.range 4096).map (fun _ => Value.bool false)).toArray := rfl
  rw [e]
  rfl
theorem infoTab : (Try.prog.info? 73).map (·.size) = some 4096 := by kernel_rfl
theorem relE_zero : relE [] = noR := by funext a b; rfl
/-- A whole table is stored into a variable. -/
theorem there_blk {w : World} {b : Nat} {t : TypeId} {cs : Array Value} (h : Blk w b t cs) (n : Nat) (hn : n = cs.size) : w.there b 0 n := by
  intro j hj
  refine ⟨?_, h.frozen _⟩
  rw [Nat.zero_add, h.cell, Array.getElem?_eq_getElem (by omega)]; rfl
theorem setL_all (cs : Array Value) (vs : Array Value) (h : vs.size = cs.size) : setL cs 0 vs.toList = vs := by
  apply Array.ext_getElem?
  intro k
  rw [setL_get _ _ _ _ (by simp; omega)]
  by_cases hk : k < vs.size
  · rw [if_pos (by simp; exact hk), Nat.sub_zero, Array.getElem?_toList]
  · rw [if_neg (by simp; omega), Array.getElem?_eq_none (by omega), Array.getElem?_eq_none (by omega)]
theorem Blk.stored {w : World} {b : Nat} {t : TypeId} {cs vs : Array Value} (h : Blk w b t cs) (hs : vs.size = cs.size) : Blk (w.setCells b 0 vs.toList) b t vs := by
  have := h.setCells vs.toList 0
  rwa [setL_all _ _ hs] at this
theorem range_blk {w : World} {b : Nat} {t : TypeId} {cs : Array Value} (h : Blk w b t cs) : w.rangeAt b 0 cs.toList := by
  have := World.rangeAt_of_block h 0 cs.size
  rwa [show cs.extract 0 (0 + cs.size) = cs from by rw [Nat.zero_add, Array.extract_size]] at this
set_option maxRecDepth 100000 in
set_option maxHeartbeats 4000000 in
theorem direct_ref (n : Nat) (hn : n ≤ 64) (l : List Edg) (hl : l.length ≤ 1000000) (hv : ∀ e ∈ l, okEd n e) (A : Option Addr) (c : Nat) (w : World) (hA : Cells w A 2 l.length (edAt l)) :
    Calls Try.prog 46 #[.agg #[.int .i64 (n : Int), .slice A l.length c]] w fun e w' => e = .returned (.agg (tabC (relE l))) ∧ Below w.heap.size w w' := by
  have b0 := gr_alloc (gr_alloc (gr_alloc (Below.refl w.heap.size w) (.cells #[.int .i64 (n : Int), .slice A l.length c] 24)) (.cells (tabC noR) 73)) (.cells (tabC noR) 73)
  have k0 : Blk (((w.alloc (.cells #[.int .i64 (n : Int), .slice A l.length c] 24)).alloc (.cells (tabC noR) 73)).alloc (.cells (tabC noR) 73)) w.heap.size 24 #[.int .i64 (n : Int), .slice A l.length c] := ((Blk.new w _ _).alloc _).alloc _
  have k1 : Blk (((w.alloc (.cells #[.int .i64 (n : Int), .slice A l.length c] 24)).alloc (.cells (tabC noR) 73)).alloc (.cells (tabC noR) 73)) (w.heap.size + 1) 73 (tabC noR) := (blk_at (by simp)).alloc _
  have k2 : Blk (((w.alloc (.cells #[.int .i64 (n : Int), .slice A l.length c] 24)).alloc (.cells (tabC noR) 73)).alloc (.cells (tabC noR) 73)) (w.heap.size + 1 + 1) 73 (tabC noR) := blk_at (by simp)
  obtain ⟨ln, hln⟩ : ∃ ln, ln = l.length := ⟨_, rfl⟩
  have K := Lib.hid (And.intro b0 (And.intro k0 (And.intro k1 (And.intro k2 (And.intro hA hv)))))
  have HN := Lib.hid hln
  rw [← hln] at hl K ⊢
  clear b0 k0 k1 k2 hA hv hln
  go_enter Try.func46, Try.ntmps46
  go_wp2_with (fail)
  rw [zero_tab]
  go_loopg [4] ln (fun q iv wr => ∃ k : Nat, q = ln - k ∧ k ≤ ln ∧ iv = .int .i64 (k : Int) ∧ Below w.heap.size w wr ∧ Blk wr w.heap.size 24 #[.int .i64 (n : Int), .slice A ln c] ∧ Blk wr (w.heap.size + 1) 73 (tabC noR) ∧ Blk wr (w.heap.size + 1 + 1) 73 (tabC (relE (l.take k))))
  case atStart => exact ⟨0, rfl, Nat.zero_le _, rfl, K.out.1, K.out.2.1, K.out.2.2.1, by rw [List.take_zero, relE_zero]; exact K.out.2.2.2.1⟩
  case round =>
    obtain ⟨k, hq, hk, rfl, hbel, hg, hr, hx⟩ := hrel
    have r1 := hg.cell' (i := 1) rfl
    have gl := hg.lt
    by_cases hlt : k < ln
    · obtain ⟨e, hp⟩ : ∃ e, l[k]? = some e := ⟨_, List.getElem?_eq_getElem (by rw [← HN.out]; exact hlt)⟩
      have hA1 := K.out.2.2.2.2.1.below hbel
      rw [HN.out] at hA1
      obtain ⟨ab, ao, rfl, hab, c0, c1⟩ := cells_edg hA1 hp
      obtain ⟨o1, o2, o3, o4⟩ := K.out.2.2.2.2.2 e (List.mem_of_getElem? hp)
      obtain ⟨i, hi⟩ : ∃ i : Nat, e.f = (i : Int) := ⟨e.f.toNat, by omega⟩
      obtain ⟨j, hj⟩ : ∃ j : Nat, e.t = (j : Int) := ⟨e.t.toNat, by omega⟩
      have hi6 : i < 64 := by omega
      have hj6 : j < 64 := by omega
      have hi7 : (i : Int) < 64 := by omega
      have hj7 : (j : Int) < 64 := by omega
      have hkl : (k : Int) < (ln : Int) := by omega
      rw [hi] at c0
      rw [hj] at c1
      have cx := hx.cell' (tabC_at (relE (l.take k)) hi6 hj6)
      have xf := hx.frozen (i * 64 + j)
      have xl := hx.lt
      have B := Lib.hid (And.intro hbel (And.intro hg (And.intro hr (And.intro hx (And.intro hq (And.intro hp (And.intro hi hj)))))))
      clear hbel hg hr hx hq hp hi hj o1 o2 o3 o4 hA1
      go_wp2_with (fail)
      go_region
      go_wp2_with (fail)
      go_roundg (ln - (k + 1))
      case measure => have := B.out.2.2.2.2.1; omega
      case rel =>
        have ht : l.take (k + 1) = l.take k ++ [e] := by rw [List.take_add_one, B.out.2.2.2.2.2.1]; rfl
        have hE : relE (l.take (k + 1)) = insE (relE (l.take k)) i j := by rw [ht, relE_snoc _ e B.out.2.2.2.2.2.2.1 B.out.2.2.2.2.2.2.2]
        have hb := gr_set B.out.1 (p := ⟨w.heap.size + 1 + 1, i * 64 + j, none⟩) (by show w.heap.size ≤ w.heap.size + 1 + 1; omega) (.bool true)
        refine ⟨k + 1, rfl, hlt, rfl, ⟨hb.os, hb.tape, hb.output, hb.size, hb.block⟩, (B.out.2.1.far (by show w.heap.size ≠ w.heap.size + 1 + 1; omega) _).drew, (B.out.2.2.1.far (by show w.heap.size + 1 ≠ w.heap.size + 1 + 1; omega) _).drew, ?_⟩
        rw [hE, ← tabC_set (T := relE (l.take k)) (U := insE (relE (l.take k)) i j) (b := true) hi6 hj6 (by unfold insE; simp) (fun a c' hne => by
          unfold insE
          have : (decide (a = i) && decide (c' = j)) = false := by
            by_cases h1 : a = i
            · by_cases h2 : c' = j
              · exact absurd ⟨h1, h2⟩ hne
              · rw [decide_eq_false h2, Bool.and_false]
            · rw [decide_eq_false h1, Bool.false_and]
          rw [this, Bool.or_false])]
        exact (B.out.2.2.2.1.set_ _ _).drew
    · have ek : k = ln := by omega
      subst k
      rw [List.take_of_length_le (by rw [← HN.out]; exact Nat.le_refl _)] at hx
      have rN : wr.rangeAt (w.heap.size + 1 + 1) 0 (tabC (relE l)).toList := by
        have := World.rangeAt_of_block hx 0 4096
        rwa [show (tabC (relE l)).extract 0 (0 + 4096) = tabC (relE l) from by rw [Nat.zero_add, ← tabC_size (relE l), Array.extract_size]] at this
      obtain ⟨cs, hcs⟩ : ∃ cs, cs = tabC (relE l) := ⟨_, rfl⟩
      have thr : wr.there (w.heap.size + 1) 0 cs.size := by
        intro j hj
        rw [hcs, tabC_size] at hj
        refine ⟨?_, hr.frozen _⟩
        rw [Nat.zero_add, hr.cell, Array.getElem?_eq_getElem (by rw [tabC_size]; exact hj)]; rfl
      have hcz : cs.size = 4096 := by rw [hcs, tabC_size]
      have hall : cs.all (·.oneCell') = true := by rw [hcs]; exact tabC_one _
      rw [← hcs] at rN
      have hi1 : (Try.prog.info? 73).map (·.size) = some cs.toList.length := by rw [Array.length_toList, hcz]; exact infoTab
      have hi2 : (Try.prog.info? 73).map (·.size) = some cs.size := by rw [hcz]; exact infoTab
      have bb := gr_setCells (b := w.heap.size + 1) cs.toList 0 hbel (by omega)
      have rX := World.rangeAt_setCells_same wr (w.heap.size + 1) 0 cs.toList (by rw [Array.length_toList]; exact thr)
      obtain ⟨wx, hwx⟩ : ∃ wx, wr.setCells (w.heap.size + 1) 0 cs.toList = wx := ⟨_, rfl⟩
      rw [hwx] at bb rX
      have hfin := run_loadVar_mid (P := Try.prog) wx (w.heap.size + 1) 0 73 cs.toList _ rX Try.underlying73 rfl hi1
      have B := Lib.hid (And.intro bb (And.intro hcs hfin))
      clear hbel hg hx hq hlt hr hcs bb rX hfin hcz
      go_wp2_with (first | refine wpList_load_mid rfl 73 _ rfl (w.heap.size + 1 + 1) 0 rfl cs.toList _ rN Try.underlying73 rfl hi1 ?_ | (refine wpList_store_mid rfl 73 _ _ rfl (w.heap.size + 1) 0 cs rfl rfl thr hi2 hall ?_; rw [hwx]; clear rN thr hi1 hi2 hall hwx))
      refine bodyPost_ret (v := .agg (tabC (relE l))) ?_ rfl ⟨rfl, B.out.1⟩
      have hf := B.out.2.2
      rw [Array.toArray_toList, B.out.2.1] at hf
      simp [results, Try.results46, Act.put, asAddr, Result.andThen, hf]
end Go.Proofs.Ytjgkiiohbceocaa
namespace Go.Proofs.Ytjgkiiohbceocaa
open Go.RowKit
set_option linter.unusedVariables false
set_option linter.unusedSimpArgs false

/-- A round of the closure, as far as row i and column j. -/
def wst2 (k i j : Nat) (T : Nat → Nat → Bool) : Nat → Nat → Bool := fun a b => if a < i ∨ (a = i ∧ b < j) then wst k T a b else T a b
theorem wst2_ij (k i j : Nat) (T : Nat → Nat → Bool) : wst2 k i j T i j = T i j := by unfold wst2; rw [if_neg (by omega)]
theorem wst2_ik (k i j : Nat) (T : Nat → Nat → Bool) (a : Nat) : wst2 k i j T a k = T a k := by
  unfold wst2
  split
  · exact wst_col k T a
  · rfl
theorem wst2_kj (k i j : Nat) (T : Nat → Nat → Bool) (b : Nat) : wst2 k i j T k b = T k b := by
  unfold wst2
  split
  · exact wst_row k T b
  · rfl
theorem wst2_start (k : Nat) (T : Nat → Nat → Bool) : wst2 k 0 0 T = T := by
  funext a b
  unfold wst2
  rw [if_neg (by omega)]
theorem wst2_set {k i j : Nat} {T : Nat → Nat → Bool} : wst2 k i (j + 1) T i j = (T i j || (T i k && T k j)) := by
  unfold wst2
  rw [if_pos (by omega)]
  rfl
theorem wst2_far {k i j a b : Nat} {T : Nat → Nat → Bool} (h : ¬ (a = i ∧ b = j)) : wst2 k i (j + 1) T a b = wst2 k i j T a b := by
  unfold wst2
  by_cases h1 : a < i ∨ (a = i ∧ b < j)
  · rw [if_pos h1, if_pos (by omega)]
  · rw [if_neg h1, if_neg (by omega)]
theorem wst2_row {n k i : Nat} {T : Nat → Nat → Bool} (h : Within n T) : wst2 k i n T = wst2 k (i + 1) 0 T := by
  funext a b
  unfold wst2
  by_cases h1 : a < i ∨ (a = i ∧ b < n)
  · rw [if_pos h1, if_pos (by omega)]
  · rw [if_neg h1]
    by_cases h2 : a < i + 1 ∨ (a = i + 1 ∧ b < 0)
    · rw [if_pos h2]
      have hb : n ≤ b := by omega
      unfold wst
      cases e : T k b with
      | false => rw [Bool.and_false, Bool.or_false]
      | true => have := (h k b e).2; omega
    · rw [if_neg h2]
theorem wst2_end {n k : Nat} {T : Nat → Nat → Bool} (h : Within n T) : wst2 k n 0 T = wst k T := by
  funext a b
  unfold wst2
  by_cases h1 : a < n ∨ (a = n ∧ b < 0)
  · rw [if_pos h1]
  · rw [if_neg h1]
    have hb : n ≤ a := by omega
    unfold wst
    cases e : T a k with
    | false => rw [Bool.false_and, Bool.or_false]
    | true => have := (h a k e).1; omega

set_option maxRecDepth 100000 in
set_option maxHeartbeats 8000000 in
theorem reaches_ref (n : Nat) (hn : n ≤ 64) (l : List Edg) (hl : l.length ≤ 1000000) (hv : ∀ e ∈ l, okEd n e) (A : Option Addr) (c : Nat) (w : World) (hA : Cells w A 2 l.length (edAt l)) :
    Calls Try.prog 45 #[.agg #[.int .i64 (n : Int), .slice A l.length c]] w fun e w' => e = .returned (.agg (tabC (rea n (relE l)))) ∧ Below w.heap.size w w' := by
  have b0 := gr_alloc (gr_alloc (Below.refl w.heap.size w) (.cells #[.int .i64 (n : Int), .slice A l.length c] 24)) (.cells (tabC noR) 73)
  have k0 : Blk ((w.alloc (.cells #[.int .i64 (n : Int), .slice A l.length c] 24)).alloc (.cells (tabC noR) 73)) w.heap.size 24 #[.int .i64 (n : Int), .slice A l.length c] := (Blk.new w _ _).alloc _
  have k1 : Blk ((w.alloc (.cells #[.int .i64 (n : Int), .slice A l.length c] 24)).alloc (.cells (tabC noR) 73)) (w.heap.size + 1) 73 (tabC noR) := blk_at (by simp)
  have hdi := direct_ref n hn l hl hv A c _ (hA.below b0)
  have hw := relE_within hv
  have K := Lib.hid (And.intro b0 (And.intro k0 (And.intro k1 (And.intro hw hdi))))
  have hn' : (n : Int) ≤ 64 := by omega
  clear b0 k0 k1 hA hv hw hdi hl
  go_enter Try.func45, Try.ntmps45
  go_wp2_with (fail)
  rw [zero_tab]
  refine K.out.2.2.2.2.mono ?_
  rintro e W1 ⟨rfl, h1⟩
  have k0 := K.out.2.1.call h1
  have k1 := K.out.2.2.1.call h1
  have b1 := gr_call K.out.1 h1
  have bz := b1.size
  have b2 := gr_alloc b1 (.cells (tabC noR) 73)
  have kt := Blk.new W1 73 (tabC noR)
  have ka := k0.alloc (.cells (tabC noR) 73)
  have kb := k1.alloc (.cells (tabC noR) 73)
  have l1 := k1.lt
  have hsz : (tabC (relE l)).size = (tabC noR).size := by rw [tabC_size, tabC_size]
  have thr := there_blk kt (tabC (relE l)).size hsz
  have hi2 : (Try.prog.info? 73).map (·.size) = some (tabC (relE l)).size := by rw [tabC_size]; exact infoTab
  have hall := tabC_one (relE l)
  have kt' := kt.stored hsz
  have ka' := ka.farCells (b := W1.heap.size) (by omega) (tabC (relE l)).toList 0
  have kb' := kb.farCells (b := W1.heap.size) (by omega) (tabC (relE l)).toList 0
  have b2' := gr_setCells (b := W1.heap.size) (tabC (relE l)).toList 0 b2 bz
  obtain ⟨wx, hwx⟩ : ∃ wx, (W1.alloc (.cells (tabC noR) 73)).setCells W1.heap.size 0 (tabC (relE l)).toList = wx := ⟨_, rfl⟩
  rw [hwx] at kt' ka' kb' b2'
  have hgs : w.heap.size + 1 < W1.heap.size := by omega
  have D := Lib.hid (And.intro b2' (And.intro ka' (And.intro kb' kt')))
  obtain ⟨cs, hcs⟩ : ∃ cs, cs = tabC (relE l) := ⟨_, rfl⟩
  rw [← hcs] at thr hi2 hall hwx ⊢
  clear h1 k0 k1 b1 b2 kt ka kb kt' ka' kb' b2' hsz hcs
  go_wp2_with (refine wpList_store_mid rfl 73 _ _ rfl W1.heap.size 0 cs rfl rfl (by rw [zero_tab]; exact thr) hi2 hall ?_; rw [zero_tab, hwx])
  have hw2 : w.heap.size ≤ W1.heap.size := by omega
  clear hi2 thr hall hwx
  go_loopg [4] n (fun q kv wr => ∃ k : Nat, q = n - k ∧ k ≤ n ∧ kv = .int .i64 (k : Int) ∧ Below w.heap.size w wr ∧ Blk wr w.heap.size 24 #[.int .i64 (n : Int), .slice A l.length c] ∧ Blk wr (w.heap.size + 1) 73 (tabC noR) ∧ Blk wr W1.heap.size 73 (tabC (clo (relE l) k)))
  case atStart => exact ⟨0, rfl, Nat.zero_le _, rfl, D.out.1, D.out.2.1, D.out.2.2.1, D.out.2.2.2⟩
  case round =>
    obtain ⟨k, hq, hk, rfl, hbel, hg, hr, hx⟩ := hrel
    have r0 := hg.cell' (i := 0) rfl
    have gl := hg.lt
    by_cases hkn : k < n
    · have hk' : (k : Int) < (n : Int) := by omega
      have hwi : Within n (clo (relE l) k) := clo_within K.out.2.2.2.1 k
      obtain ⟨T, hT⟩ : ∃ T, T = clo (relE l) k := ⟨_, rfl⟩
      rw [← hT] at hx hwi
      have B := Lib.hid (And.intro hbel (And.intro hg (And.intro hr (And.intro hx (And.intro hq (And.intro hwi hT))))))
      clear hbel hg hr hx hq hwi hT
      go_wp2_with (fail)
      go_loopg [5] n (fun q iv wr => ∃ i : Nat, q = n - i ∧ i ≤ n ∧ iv = .int .i64 (i : Int) ∧ Below w.heap.size w wr ∧ Blk wr w.heap.size 24 #[.int .i64 (n : Int), .slice A l.length c] ∧ Blk wr (w.heap.size + 1) 73 (tabC noR) ∧ Blk wr W1.heap.size 73 (tabC (wst2 k i 0 T)))
      case atStart => exact ⟨0, rfl, Nat.zero_le _, rfl, B.out.1, B.out.2.1, B.out.2.2.1, by rw [wst2_start]; exact B.out.2.2.2.1⟩
      case round =>
        obtain ⟨i, hq, hi, rfl, hbel, hg, hr, hx⟩ := hrel
        have r0 := hg.cell' (i := 0) rfl
        have gl := hg.lt
        by_cases hin : i < n
        · have hi' : (i : Int) < (n : Int) := by omega
          have C := Lib.hid (And.intro hbel (And.intro hg (And.intro hr (And.intro hx hq))))
          clear hbel hg hr hx hq
          go_wp2_with (fail)
          go_loopg [6] n (fun q jv wr => ∃ j : Nat, q = n - j ∧ j ≤ n ∧ jv = .int .i64 (j : Int) ∧ Below w.heap.size w wr ∧ Blk wr w.heap.size 24 #[.int .i64 (n : Int), .slice A l.length c] ∧ Blk wr (w.heap.size + 1) 73 (tabC noR) ∧ Blk wr W1.heap.size 73 (tabC (wst2 k i j T)))
          case atStart => exact ⟨0, rfl, Nat.zero_le _, rfl, C.out.1, C.out.2.1, C.out.2.2.1, C.out.2.2.2.1⟩
          case round =>
            obtain ⟨j, hq, hj, rfl, hbel, hg, hr, hx⟩ := hrel
            have r0 := hg.cell' (i := 0) rfl
            have gl := hg.lt
            by_cases hjn : j < n
            · have hj' : (j : Int) < (n : Int) := by omega
              have hi6 : i < 64 := by omega
              have hj6 : j < 64 := by omega
              have hk6 : k < 64 := by omega
              have hi7 : (i : Int) < 64 := by omega
              have hj7 : (j : Int) < 64 := by omega
              have hk7 : (k : Int) < 64 := by omega
              have cij := hx.cell' (tabC_at (wst2 k i j T) hi6 hj6)
              have cik := hx.cell' (tabC_at (wst2 k i j T) hi6 hk6)
              have ckj := hx.cell' (tabC_at (wst2 k i j T) hk6 hj6)
              rw [wst2_ij] at cij
              rw [wst2_ik] at cik
              rw [wst2_kj] at ckj
              have xf := hx.frozen (i * 64 + j)
              have xl := hx.lt
              have hst : wst2 k i (j + 1) T i j = (T i j || (T i k && T k j)) := wst2_set
              have F := Lib.hid (And.intro hbel (And.intro hg (And.intro hr (And.intro hx (And.intro hq hst)))))
              clear hbel hg hr hx hq hst
              obtain ⟨b1, hb1⟩ : ∃ b, b = T i j := ⟨_, rfl⟩
              obtain ⟨b2, hb2⟩ : ∃ b, b = T i k := ⟨_, rfl⟩
              obtain ⟨b3, hb3⟩ : ∃ b, b = T k j := ⟨_, rfl⟩
              rw [← hb1] at cij F
              rw [← hb2] at cik F
              rw [← hb3] at ckj F
              clear hb1 hb2 hb3
              have fin : ∀ (b : Bool), (b1 || (b2 && b3)) = b → ∃ j', n - (j + 1) = n - j' ∧ j' ≤ n ∧ Value.int .i64 ((j : Int) + 1) = .int .i64 ((j' : Nat) : Int) ∧ Below w.heap.size w (wr.setCell ⟨W1.heap.size, i * 64 + j, none⟩ (.bool b)).drew ∧ Blk (wr.setCell ⟨W1.heap.size, i * 64 + j, none⟩ (.bool b)).drew w.heap.size 24 #[.int .i64 (n : Int), .slice A l.length c] ∧ Blk (wr.setCell ⟨W1.heap.size, i * 64 + j, none⟩ (.bool b)).drew (w.heap.size + 1) 73 (tabC noR) ∧ Blk (wr.setCell ⟨W1.heap.size, i * 64 + j, none⟩ (.bool b)).drew W1.heap.size 73 (tabC (wst2 k i j' T)) := by
                intro b hb
                have hbb := gr_set F.out.1 (p := ⟨W1.heap.size, i * 64 + j, none⟩) hw2 (.bool b)
                refine ⟨j + 1, rfl, hjn, rfl, ⟨hbb.os, hbb.tape, hbb.output, hbb.size, hbb.block⟩, (F.out.2.1.far (by show w.heap.size ≠ W1.heap.size; omega) _).drew, (F.out.2.2.1.far (by show w.heap.size + 1 ≠ W1.heap.size; omega) _).drew, ?_⟩
                rw [← tabC_set (T := wst2 k i j T) (U := wst2 k i (j + 1) T) (b := b) hi6 hj6 (by rw [F.out.2.2.2.2.2, hb]) (fun a c' hne => wst2_far hne)]
                exact (F.out.2.2.2.1.set_ _ _).drew
              have FIN := Lib.hid fin
              clear fin
              cases b1 <;> cases b2 <;> cases b3 <;>
                (go_wp2_with (fail)
                 go_region
                 all_goals
                   go_wp2_with (fail)
                   go_roundg (n - (j + 1))
                   case measure => have := F.out.2.2.2.2.1; omega
                   case rel => exact FIN.out _ rfl)
            · have ej : j = n := by omega
              subst j
              rw [wst2_row B.out.2.2.2.2.2.1] at hx
              have F := Lib.hid (And.intro hbel (And.intro hg (And.intro hr hx)))
              clear hbel hg hr hx hq hjn
              go_wp2_with (fail)
              go_roundg (n - (i + 1))
              case measure => have := C.out.2.2.2.2; omega
              case rel => exact ⟨i + 1, rfl, hin, rfl, F.out.1, F.out.2.1, F.out.2.2.1, F.out.2.2.2⟩
        · have ei : i = n := by omega
          subst i
          rw [wst2_end B.out.2.2.2.2.2.1] at hx
          have C := Lib.hid (And.intro hbel (And.intro hg (And.intro hr hx)))
          clear hbel hg hr hx hq hin
          go_wp2_with (fail)
          go_roundg (n - (k + 1))
          case measure => have := B.out.2.2.2.2.1; omega
          case rel => exact ⟨k + 1, rfl, hkn, rfl, C.out.1, C.out.2.1, C.out.2.2.1, by have h9 := C.out.2.2.2; rw [B.out.2.2.2.2.2.2] at h9; exact h9⟩
    · have ek : k = n := by omega
      subst k
      have rN := range_blk hx
      have hsz : (tabC (clo (relE l) n)).size = (tabC noR).size := by rw [tabC_size, tabC_size]
      have thr := there_blk hr (tabC (clo (relE l) n)).size hsz
      have hall := tabC_one (clo (relE l) n)
      have hi2 : (Try.prog.info? 73).map (·.size) = some (tabC (clo (relE l) n)).size := by rw [tabC_size]; exact infoTab
      have hi1 : (Try.prog.info? 73).map (·.size) = some (tabC (clo (relE l) n)).toList.length := by rw [Array.length_toList]; exact hi2
      have bb := gr_setCells (b := w.heap.size + 1) (tabC (clo (relE l) n)).toList 0 hbel (by omega)
      have rX := range_blk (hr.stored hsz)
      obtain ⟨wx, hwx⟩ : ∃ wx, wr.setCells (w.heap.size + 1) 0 (tabC (clo (relE l) n)).toList = wx := ⟨_, rfl⟩
      rw [hwx] at bb rX
      have hfin := run_loadVar_mid (P := Try.prog) wx (w.heap.size + 1) 0 73 (tabC (clo (relE l) n)).toList _ rX Try.underlying73 rfl hi1
      rw [Array.toArray_toList] at hfin
      obtain ⟨ct, hct⟩ : ∃ ct, ct = tabC (clo (relE l) n) := ⟨_, rfl⟩
      have hct' : tabC (rea n (relE l)) = ct := hct.symm
      rw [← hct] at rN thr hall hi2 hi1 hwx hfin
      have B := Lib.hid (And.intro bb (And.intro hfin hct'))
      clear hbel hg hx hq hkn hr bb rX hfin hsz hct hct'
      go_wp2_with (first | refine wpList_load_mid rfl 73 _ rfl W1.heap.size 0 rfl ct.toList _ rN Try.underlying73 rfl hi1 ?_ | (refine wpList_store_mid rfl 73 _ _ rfl (w.heap.size + 1) 0 ct rfl rfl thr hi2 hall ?_; rw [hwx]; clear rN thr hi1 hi2 hall hwx))
      refine bodyPost_ret (v := .agg ct) ?_ rfl ⟨by rw [B.out.2.2], B.out.1⟩
      have hf := B.out.2.1
      simp [results, Try.results45, Act.put, asAddr, Result.andThen, hf]
end Go.Proofs.Ytjgkiiohbceocaa
namespace Go.Proofs.Ytjgkiiohbceocaa
open Go.RowKit
set_option linter.unusedVariables false
set_option linter.unusedSimpArgs false

set_option maxRecDepth 100000 in
set_option maxHeartbeats 2000000 in
theorem together_ref (T : Nat → Nat → Bool) (a b : Nat) (ha : a < 64) (hb : b < 64) (w : World) :
    Calls Try.prog 67 #[.agg (tabC T), .int .i64 (a : Int), .int .i64 (b : Int)] w fun e w' => e = .returned (.bool (tog T a b)) ∧ Below w.heap.size w w' := by
  have kt := Blk.new w 73 (tabC T)
  have cab := kt.cell' (tabC_at T ha hb)
  have cba := kt.cell' (tabC_at T hb ha)
  have lt := kt.lt
  have ha7 : (a : Int) < 64 := by omega
  have hb7 : (b : Int) < 64 := by omega
  have bb := Lib.hid (gr_alloc (Below.refl w.heap.size w) (.cells (tabC T) 73))
  clear kt
  obtain ⟨ct, hct⟩ : ∃ ct, ct = tabC T := ⟨_, rfl⟩
  rw [← hct] at cab cba lt bb ⊢
  have hsz : ct.size = 4096 := by rw [hct, tabC_size]
  clear hct
  unfold tog
  by_cases hab : a = b
  · have hab' : ((a : Int) == (b : Int)) = true := by simp; omega
    rw [decide_eq_true hab, Bool.true_or]
    clear hab
    go_enter Try.func67, Try.ntmps67
    go_wp2_with (fail)
    go_ret
    exact ⟨by simp, bb.out⟩
  · have hab' : ((a : Int) == (b : Int)) = false := by simp; omega
    rw [decide_eq_false hab, Bool.false_or]
    clear hab
    generalize T a b = x at cab ⊢
    generalize T b a = y at cba ⊢
    cases x <;> cases y <;>
      (go_enter Try.func67, Try.ntmps67
       go_wp2_with (fail)
       go_ret
       exact ⟨by simp, bb.out⟩)

/-- A place that is free, as far as k. -/
def okT (T : Nat → Nat → Bool) (D : Nat → Bool) (i : Nat) : Nat → Bool
  | 0 => !D i
  | k + 1 => okT T D i k && (D k || tog T i k || !T k i)
theorem okT_all (n : Nat) (T : Nat → Nat → Bool) (D : Nat → Bool) (i : Nat) : okT T D i n = okF n T D i := by
  have key : ∀ k, okT T D i k = (!D i && (List.range k).all fun k => D k || tog T i k || !T k i) := by
    intro k
    induction k with
    | zero => unfold okT; simp
    | succ k ih =>
      unfold okT
      rw [ih, List.range_succ, List.all_append]
      simp [Bool.and_assoc]
  exact key n
/-- The cells of the marks. -/
def mrkC (D : Nat → Bool) : Array Value := vecC 64 fun k => .bool (D k)
theorem infoMrk : (Try.prog.info? 71).map (·.size) = some 64 := by kernel_rfl
def firstV (n : Nat) (T : Nat → Nat → Bool) (D : Nat → Bool) : Int := match firstR n T D with
  | some r => (r : Int)
  | none => -1
theorem firstV_some {n : Nat} {T : Nat → Nat → Bool} {D : Nat → Bool} {i : Nat} (hi : i < n) (h : okF n T D i = true) (h0 : ∀ j, j < i → okF n T D j = false) : firstV n T D = (i : Int) := by
  unfold firstV firstR
  rw [find_range hi h h0]
theorem firstV_none {n : Nat} {T : Nat → Nat → Bool} {D : Nat → Bool} (h0 : ∀ j, j < n → okF n T D j = false) : firstV n T D = -1 := by
  unfold firstV firstR
  rw [find_range_none h0]

set_option maxRecDepth 100000 in
set_option maxHeartbeats 8000000 in
theorem first_ref (n : Nat) (hn : n ≤ 64) (T : Nat → Nat → Bool) (D : Nat → Bool) (ev : Value) (w : World) :
    Calls Try.prog 66 #[.agg #[.int .i64 (n : Int), ev], .agg (tabC T), .agg (mrkC D)] w fun e w' => e = .returned (.int .i64 (firstV n T D)) ∧ Below w.heap.size w w' := by
  have b0 := gr_alloc (gr_alloc (gr_alloc (Below.refl w.heap.size w) (.cells #[.int .i64 (n : Int), ev] 24)) (.cells (tabC T) 73)) (.cells (mrkC D) 71)
  have k0 : Blk (((w.alloc (.cells #[.int .i64 (n : Int), ev] 24)).alloc (.cells (tabC T) 73)).alloc (.cells (mrkC D) 71)) w.heap.size 24 #[.int .i64 (n : Int), ev] := ((Blk.new w _ _).alloc _).alloc _
  have k1 : Blk (((w.alloc (.cells #[.int .i64 (n : Int), ev] 24)).alloc (.cells (tabC T) 73)).alloc (.cells (mrkC D) 71)) (w.heap.size + 1) 73 (tabC T) := (blk_at (by simp)).alloc _
  have k2 : Blk (((w.alloc (.cells #[.int .i64 (n : Int), ev] 24)).alloc (.cells (tabC T) 73)).alloc (.cells (mrkC D) 71)) (w.heap.size + 1 + 1) 71 (mrkC D) := blk_at (by simp)
  have htg := fun a b ha hb W => together_ref T a b ha hb W
  have hn' : (n : Int) ≤ 64 := by omega
  have K := Lib.hid (And.intro b0 (And.intro k0 (And.intro k1 (And.intro k2 htg))))
  have hi1 : (Try.prog.info? 73).map (·.size) = some (tabC T).toList.length := by rw [Array.length_toList, tabC_size]; exact infoTab
  clear b0 k0 k1 k2 htg
  go_enter Try.func66, Try.ntmps66
  go_wp2_with (fail)
  obtain ⟨X0, hX0⟩ : ∃ X0, (((w.alloc (.cells #[.int .i64 (n : Int), ev] 24)).alloc (.cells (tabC T) 73)).alloc (.cells (mrkC D) 71)) = X0 := ⟨_, rfl⟩
  rw [hX0] at K ⊢
  clear hX0
  obtain ⟨ct, hct⟩ : ∃ ct, ct = tabC T := ⟨_, rfl⟩
  have HC := Lib.hid hct
  rw [← hct] at hi1
  clear hct
  go_loopg [7] n (fun q iv wr => ∃ i : Nat, q = n - i ∧ i ≤ n ∧ iv = .int .i64 (i : Int) ∧ (∀ j, j < i → okF n T D j = false) ∧ Below X0.heap.size X0 wr)
  case atStart => exact ⟨0, rfl, Nat.zero_le _, rfl, fun j hj => absurd hj (Nat.not_lt_zero j), Below.refl _ _⟩
  case round =>
    obtain ⟨i, hq, hi, rfl, hno, hbel⟩ := hrel
    have kk0 := K.out.2.1.call hbel
    have r0 := kk0.cell' (i := 0) rfl
    have l0 := kk0.lt
    by_cases hin : i < n
    · have hi' : (i : Int) < (n : Int) := by omega
      have hi6 : i < 64 := by omega
      have hi7 : (i : Int) < 64 := by omega
      have kk2 := K.out.2.2.2.1.call hbel
      have cd := kk2.cell' (vecC_at (fun k => .bool (D k)) hi6)
      have l2 := kk2.lt
      have h00 : okT T D i 0 = !D i := rfl
      obtain ⟨di, hdi⟩ : ∃ di, di = D i := ⟨_, rfl⟩
      rw [← hdi] at cd h00
      have B := Lib.hid (And.intro hno (And.intro hbel (And.intro hq h00)))
      clear hno hbel hq h00 kk0 kk2 hdi
      go_wp2_with (fail)
      go_loopg [9, 8] n (fun q kv bv wr => ∃ k : Nat, q = n - k ∧ k ≤ n ∧ kv = .int .i64 (k : Int) ∧ bv = .bool (okT T D i k) ∧ Below X0.heap.size X0 wr)
      case atStart => exact ⟨0, rfl, Nat.zero_le _, rfl, by rw [B.out.2.2.2], B.out.2.1⟩
      case round =>
        obtain ⟨k, hq, hk, rfl, rfl, hbel⟩ := hrel
        have kk0 := K.out.2.1.call hbel
        have r0 := kk0.cell' (i := 0) rfl
        have l0 := kk0.lt
        by_cases hkn : k < n
        · have hk' : (k : Int) < (n : Int) := by omega
          have hk6 : k < 64 := by omega
          have hk7 : (k : Int) < 64 := by omega
          have kk1 := K.out.2.2.1.call hbel
          have kk2 := K.out.2.2.2.1.call hbel
          have cd := kk2.cell' (vecC_at (fun k => .bool (D k)) hk6)
          have l2 := kk2.lt
          have l1 := kk1.lt
          have rN := range_blk kk1
          rw [← HC.out] at rN
          have hst : okT T D i (k + 1) = (okT T D i k && (D k || tog T i k || !T k i)) := rfl
          have htg := K.out.2.2.2.2 i k hi6 hk6 wr
          rw [← HC.out] at htg
          have F := Lib.hid (And.intro hbel (And.intro hq (And.intro hst (And.intro kk1 htg))))
          clear hbel hq hst htg kk0 kk1 kk2
          obtain ⟨dk, hdk⟩ : ∃ b, b = D k := ⟨_, rfl⟩
          rw [← hdk] at cd F
          clear hdk
          obtain ⟨b, hb⟩ : ∃ b, b = okT T D i k := ⟨_, rfl⟩
          rw [← hb] at F ⊢
          clear hb
          cases b with
          | false =>
            go_wp2_with (fail)
            go_roundg (n - (k + 1))
            case measure => have := F.out.2.1; omega
            case rel => exact ⟨k + 1, rfl, hkn, rfl, by rw [F.out.2.2.1]; rfl, F.out.1⟩
          | true =>
            cases dk with
            | true =>
              go_wp2_with (fail)
              go_roundg (n - (k + 1))
              case measure => have := F.out.2.1; omega
              case rel => exact ⟨k + 1, rfl, hkn, rfl, by rw [F.out.2.2.1]; rfl, F.out.1⟩
            | false =>
              go_wp2_with (fail)
              refine wp_load_mid 73 _ rfl (w.heap.size + 1) 0 (by rfl) ct.toList _ rN Try.underlying73 rfl hi1 ?_
              go_wp2_with (fail)
              refine F.out.2.2.2.2.mono ?_
              rintro e W2 ⟨rfl, h2⟩
              have cki := (F.out.2.2.2.1.call h2).cell' (tabC_at T hk6 hi6)
              have lki := (F.out.2.2.2.1.call h2).lt
              have hb2 := gr_call F.out.1 h2
              have G := Lib.hid hb2
              clear h2 hb2 rN hi1
              obtain ⟨tg, htg⟩ : ∃ b, b = tog T i k := ⟨_, rfl⟩
              obtain ⟨tk, htk⟩ : ∃ b, b = T k i := ⟨_, rfl⟩
              rw [← htg] at F ⊢
              rw [← htk] at F cki
              clear htg htk
              cases tg with
              | true =>
                go_wp2_with (fail)
                go_roundg (n - (k + 1))
                case measure => have := F.out.2.1; omega
                case rel => exact ⟨k + 1, rfl, hkn, rfl, by rw [F.out.2.2.1]; rfl, G.out⟩
              | false =>
                cases tk with
                | true =>
                  go_wp2_with (fail)
                  go_roundg (n - (k + 1))
                  case measure => have := F.out.2.1; omega
                  case rel => exact ⟨k + 1, rfl, hkn, rfl, by rw [F.out.2.2.1]; rfl, G.out⟩
                | false =>
                  go_wp2_with (fail)
                  go_roundg (n - (k + 1))
                  case measure => have := F.out.2.1; omega
                  case rel => exact ⟨k + 1, rfl, hkn, rfl, by rw [F.out.2.2.1]; rfl, G.out⟩
        · have ek : k = n := by omega
          subst k
          have hok := okT_all n T D i
          obtain ⟨b, hb⟩ : ∃ b, b = okT T D i n := ⟨_, rfl⟩
          rw [← hb] at hok ⊢
          have F := Lib.hid (And.intro hbel hok)
          clear hbel hq hok hb kk0 hkn
          cases b with
          | true =>
            go_wp2_with (fail)
            go_ret
            rw [firstV_some hin F.out.2.symm B.out.1]
            exact ⟨rfl, gr_call K.out.1 F.out.1⟩
          | false =>
            go_wp2_with (fail)
            go_roundg (n - (i + 1))
            case measure => have := B.out.2.2.1; omega
            case rel =>
              refine ⟨i + 1, rfl, hin, rfl, fun j hj => ?_, F.out.1⟩
              by_cases e : j = i
              · subst e; exact F.out.2.symm
              · exact B.out.1 j (by omega)
    · have ei : i = n := by omega
      subst i
      have B := Lib.hid (And.intro hno hbel)
      clear hno hbel hq kk0 hin
      go_wp2_with (fail)
      go_ret
      rw [firstV_none B.out.1]
      exact ⟨rfl, gr_call K.out.1 B.out.2⟩
end Go.Proofs.Ytjgkiiohbceocaa
namespace Go.Proofs.Ytjgkiiohbceocaa
open Go.RowKit
set_option linter.unusedVariables false
set_option linter.unusedSimpArgs false

/-- What is marked while a component is gathered. -/
def mrkT (T : Nat → Nat → Bool) (D : Nat → Bool) (r k j : Nat) : Bool := D j || (decide (j < k) && tog T r j)
theorem mrkC_congr {D D' : Nat → Bool} (h : ∀ j, j < 64 → D' j = D j) : mrkC D = mrkC D' := vecC_congr fun j hj => by rw [h j hj]
theorem mrkC_size (D : Nat → Bool) : (mrkC D).size = 64 := vecC_size _ _
theorem firstV_eq {n : Nat} {T : Nat → Nat → Bool} (ht : Trans' T) {left : List Nat} (hl : LeftOk n T left) {D : Nat → Bool} (hD : ∀ k, k < n → D k = doneOf T left k) :
    firstV n T D = match left.find? (freeR T left) with | some r => (r : Int) | none => -1 := by
  unfold firstV
  have : firstR n T D = firstR n T (doneOf T left) := by
    unfold firstR
    have key : ∀ i, i < n → okF n T D i = okF n T (doneOf T left) i := by
      intro i hi
      unfold okF
      rw [hD i hi]
      congr 1
      rw [Bool.eq_iff_iff, List.all_eq_true, List.all_eq_true]
      constructor
      · intro h k hk; have := h k hk; rwa [hD k (List.mem_range.1 hk)] at this
      · intro h k hk; have := h k hk; rwa [← hD k (List.mem_range.1 hk)] at this
    cases e : (List.range n).find? (okF n T (doneOf T left)) with
    | none =>
      rw [List.find?_eq_none] at e ⊢
      intro i hi
      rw [key i (List.mem_range.1 hi)]
      exact e i hi
    | some r =>
      obtain ⟨h1, h2, h3⟩ := find_least e
      exact find_range h1 (by rw [key r h1]; exact h2) (fun i hi => by rw [key i (by omega)]; exact h3 i hi)
  rw [this, first_eq ht hl]
  all_goals (cases left.find? (freeR T left) <;> rfl)
theorem memT_all (n : Nat) (T : Nat → Nat → Bool) (r : Nat) : memT T r n = mem_ n T r := rfl

set_option maxRecDepth 100000 in
set_option maxHeartbeats 8000000 in
theorem partsR_ref (n : Nat) (hn : n ≤ 64) (T : Nat → Nat → Bool) (ht : Trans' T) (ev : Value) (w : World) :
    Calls Try.prog 55 #[.agg #[.int .i64 (n : Int), ev], .agg (tabC T)] w fun e w' => ∃ v, e = .returned v ∧ OwnLL w' w.heap.size v (partsV n T) ∧ Below w.heap.size w w' := by
  have b0 := gr_alloc (gr_alloc (Below.refl w.heap.size w) (.cells #[.int .i64 (n : Int), ev] 24)) (.cells (tabC T) 73)
  have k0 : Blk ((w.alloc (.cells #[.int .i64 (n : Int), ev] 24)).alloc (.cells (tabC T) 73)) w.heap.size 24 #[.int .i64 (n : Int), ev] := (Blk.new w _ _).alloc _
  have k1 : Blk ((w.alloc (.cells #[.int .i64 (n : Int), ev] 24)).alloc (.cells (tabC T) 73)) (w.heap.size + 1) 73 (tabC T) := blk_at (by simp)
  have b2 := gr_alloc b0 (.cells (mrkC fun _ => false) 71)
  have k2 : Blk (((w.alloc (.cells #[.int .i64 (n : Int), ev] 24)).alloc (.cells (tabC T) 73)).alloc (.cells (mrkC fun _ => false) 71)) (w.heap.size + 1 + 1) 71 (mrkC fun _ => false) := blk_at (by simp)
  have hn' : (n : Int) ≤ 64 := by omega
  have K := Lib.hid (And.intro b2 (And.intro (k0.alloc (.cells (mrkC fun _ => false) 71)) (And.intro (k1.alloc (.cells (mrkC fun _ => false) 71)) (And.intro k2 ht))))
  have hi1 : (Try.prog.info? 73).map (·.size) = some (tabC T).toList.length := by rw [Array.length_toList, tabC_size]; exact infoTab
  clear b0 b2 k0 k1 k2 ht
  obtain ⟨ct, hct⟩ : ∃ ct, ct = tabC T := ⟨_, rfl⟩
  have HC := Lib.hid hct
  rw [← hct] at hi1 K ⊢
  clear hct
  have hi71 : (Try.prog.info? 71).map (·.size) = some (mrkC fun _ => false).toList.length := by rw [Array.length_toList, mrkC_size]; exact infoMrk
  have hrN : ∀ c71, (((w.alloc (.cells #[.int .i64 (n : Int), ev] 24)).alloc (.cells ct 73)).alloc (.cells c71 71)).rangeAt (w.heap.size + 1) 0 ct.toList := fun c71 =>
    range_blk (t := 73) ((blk_at (w := w.alloc (.cells #[.int .i64 (n : Int), ev] 24)) (t := 73) (cs := ct) (n := w.heap.size + 1) (by simp)).alloc (.cells c71 71))
  have hrM := range_blk K.out.2.2.2.1
  obtain ⟨X0, hX0⟩ : ∃ X0, (((w.alloc (.cells #[.int .i64 (n : Int), ev] 24)).alloc (.cells ct 73)).alloc (.cells (mrkC fun _ => false) 71)) = X0 := ⟨_, rfl⟩
  rw [hX0] at hrM K
  go_enter Try.func55, Try.ntmps55
  go_wp2_with (first | (refine wpList_load_mid rfl 73 _ rfl (w.heap.size + 1) 0 (by rfl) ct.toList _ (hrN _) Try.underlying73 rfl hi1 ?_; change wpList _ _ _ _ _ (((w.alloc (.cells #[.int .i64 (n : Int), ev] 24)).alloc (.cells ct 73)).alloc (.cells (mrkC fun _ => false) 71)); rw [hX0]; clear hX0) | refine wpList_load_mid rfl 71 _ rfl (w.heap.size + 1 + 1) 0 (by rfl) (mrkC fun _ => false).toList _ hrM Try.underlying71 rfl hi71 ?_)
  have hB0 : w.heap.size + 1 + 1 < X0.heap.size := K.out.2.2.2.1.lt
  have hf0 : ∀ W, Calls Try.prog 66 #[.agg #[.int .i64 (n : Int), ev], .agg ct, .agg (mrkC fun _ => false)] W fun e w' => e = .returned (.int .i64 (firstV n T (fun _ => false))) ∧ Below W.heap.size W w' := by
    intro W
    rw [HC.out]
    exact first_ref n hn T _ ev W
  refine (hf0 X0).mono ?_
  rintro e W1 ⟨rfl, h1⟩
  have h10 := gr_call K.out.1 h1
  have D := Lib.hid (And.intro h10 (And.intro (K.out.2.1.call h1) (And.intro (K.out.2.2.1.call h1) (K.out.2.2.2.1.call h1))))
  clear h1 h10 hf0 hrM hrN
  go_wp2_with (fail)
  go_loopg [7, 5] (roots n T).length (fun q nv ov wr => ∃ left ps Dn, q = left.length ∧ LeftOk n T left ∧ partsR n T = ps ++ ordR T left.length left ∧ (∀ k, k < n → Dn k = doneOf T left k) ∧ nv = .int .i64 (firstV n T Dn) ∧ OwnLL wr w.heap.size ov (ps.map (mem_ n T)) ∧
    Below w.heap.size w wr ∧ Blk wr w.heap.size 24 #[.int .i64 (n : Int), ev] ∧ Blk wr (w.heap.size + 1) 73 ct ∧ Blk wr (w.heap.size + 1 + 1) 71 (mrkC Dn))
  case atStart =>
    refine ⟨roots n T, [], fun _ => false, rfl, LeftOk.roots n T, ?_, fun k hk => (done_start K.out.2.2.2.2 hk).symm, rfl, OwnLL.nil _ _, D.out.1, D.out.2.1, D.out.2.2.1, D.out.2.2.2⟩
    rw [List.nil_append]
    unfold partsR
    rw [ordR_fuel K.out.2.2.2.2 n _ (LeftOk.roots n T) (roots_len n T)]
  case round =>
    obtain ⟨left, ps, Dn, hq, hlo, heq, hDn, rfl, hown, hbel, hg0, hg1, hg2⟩ := hrel
    rename World => wo
    have hfv := firstV_eq K.out.2.2.2.2 hlo hDn
    have hll : left.length ≤ n := by
      have h1 := ordR_len K.out.2.2.2.2 _ _ hlo (Nat.le_refl _)
      have h2 := partsR_len K.out.2.2.2.2 (n := n)
      rw [heq, List.length_append, h1] at h2
      omega
    have hpl : ps.length ≤ n := by
      have h2 := partsR_len K.out.2.2.2.2 (n := n)
      rw [heq, List.length_append] at h2
      omega
    by_cases hne : left = []
    · subst hne
      have hfv' : firstV n T Dn = -1 := hfv
      rw [hfv']
      have he2 : partsR n T = ps := by rw [heq]; exact List.append_nil _
      have B := Lib.hid (And.intro hown (And.intro hbel he2))
      clear hq hlo heq hDn hown hbel hg0 hg1 hg2 hfv hfv' hll hpl he2
      go_wp2_with (fail)
      go_ret
      refine ⟨_, rfl, ?_, B.out.2.1⟩
      unfold partsV
      rw [B.out.2.2]
      exact B.out.1
    · obtain ⟨r, hf1, hf2, hf3⟩ := find_free K.out.2.2.2.2 hne hlo.one
      rw [hf1] at hfv
      have hfv' : firstV n T Dn = (r : Int) := hfv
      rw [hfv']
      have hrn := hlo.lt r hf2
      have hr6 : r < 64 := by omega
      have hr0 : (0 : Int) ≤ (r : Int) := by omega
      have hw2 := hg2.lt
      have l0 := hg0.lt
      have c0 := hg0.cell' (i := 0) rfl
      have B := Lib.hid (And.intro hq (And.intro hlo (And.intro heq (And.intro hDn (And.intro hown (And.intro hbel (And.intro hg0 (And.intro hg1 (And.intro hg2 (And.intro hf1 hf2))))))))))
      clear hq hlo heq hDn hown hbel hg0 hg1 hg2 hfv hfv' hf1 hf2 hf3
      go_wp2_with (fail)
      go_loopg [9, 8] n (fun q kv lv wr => ∃ k : Nat, q = n - k ∧ k ≤ n ∧ kv = .int .i64 (k : Int) ∧ BelowX wo.heap.size (w.heap.size + 1 + 1) wo wr ∧ Blk wr (w.heap.size + 1 + 1) 71 (mrkC (mrkT T Dn r k)) ∧ OwnN wr wo.heap.size lv (memT T r k))
      case atStart =>
        refine ⟨0, rfl, Nat.zero_le _, rfl, BelowX.refl _ _ _, ?_, ownN_nil _ _⟩
        rw [mrkC_congr (D := mrkT T Dn r 0) (D' := Dn) (fun j _ => by unfold mrkT; rw [decide_eq_false (Nat.not_lt_zero j), Bool.false_and, Bool.or_false])]
        exact B.out.2.2.2.2.2.2.2.2.1
      case round =>
        obtain ⟨k, hq, hk, rfl, hbx, hmk, hol⟩ := hrel
        have kk0 := hbx.blk B.out.2.2.2.2.2.2.1 l0 (by omega)
        have kk1 := hbx.blk B.out.2.2.2.2.2.2.2.1 B.out.2.2.2.2.2.2.2.1.lt (by omega)
        have r0 := kk0.cell' (i := 0) rfl
        have rl := kk0.lt
        have hs6 := hbx.size
        by_cases hkn : k < n
        · have hk' : (k : Int) < (n : Int) := by omega
          have hk6 : k < 64 := by omega
          have hk7 : (k : Int) < 64 := by omega
          have rN := range_blk kk1
          have htg : Calls Try.prog 67 #[.agg ct, .int .i64 (r : Int), .int .i64 (k : Int)] wr fun e w' => e = .returned (.bool (tog T r k)) ∧ Below wr.heap.size wr w' := by
            rw [HC.out]
            exact together_ref T r k hr6 hk6 wr
          have C := Lib.hid (And.intro hbx (And.intro hmk (And.intro hol (And.intro htg hq))))
          clear hbx hmk hol htg hq kk0 kk1
          go_wp2_with (refine wpList_load_mid rfl 73 _ rfl (w.heap.size + 1) 0 (by rfl) ct.toList _ rN Try.underlying73 rfl hi1 ?_)
          clear rN
          refine C.out.2.2.2.1.mono ?_
          rintro e W2 ⟨rfl, h2⟩
          have hbx2 : BelowX wo.heap.size (w.heap.size + 1 + 1) wo W2 := C.out.1.trans (BelowX.of_below (h2.mono hs6) _)
          have hmk2 := C.out.2.1.call h2
          have hol2 := own_below C.out.2.2.1 h2 (Nat.le_refl _)
          have hs7 := hbx2.size
          cases htk : tog T r k with
          | true =>
            have F := Lib.hid (And.intro htk (And.intro hbx2 (And.intro hmk2 (And.intro hol2 (And.intro (show (W2.alloc (.cells #[.int .i64 (k : Int)] 3)).cell? ⟨W2.heap.size, 0, none⟩ = some (.int .i64 (k : Int)) from (Blk.new W2 3 #[.int .i64 (k : Int)]).cell' rfl) (And.intro (own_below hol2 (gr_alloc (Below.refl _ _) (.cells #[.int .i64 (k : Int)] 3)) (Nat.le_refl _)) (hmk2.alloc (.cells #[.int .i64 (k : Int)] 3))))))))
            clear htk hbx2 hmk2 hol2 h2
            go_wp2_with (at_builtin; refine app_one rfl _ _ (t := 25) rfl wo.heap.size Try.underlying25 infoInt rfl (by decide) _ _ _ rfl F.out.2.2.2.2.2.1 W2.heap.size (.int .i64 (k : Int)) rfl F.out.2.2.2.2.1 rfl (by have := memT_len T r k; omega) (by simp; omega) ?_)
            intro v' w2 hown' hgrow _
            have hs2 := F.out.2.2.2.2.2.2.grown hgrow (own_blk_ne F.out.2.2.2.2.2.1 F.out.2.2.2.2.2.2 (by decide))
            have hf2 : w2.frozen? ⟨w.heap.size + 1 + 1, k, none⟩ = false := hs2.frozen k
            have ck2 := hs2.cell' (vecC_at (fun j => .bool (mrkT T Dn r k j)) hk6)
            have sl2 := hs2.lt
            have L := Lib.hid (And.intro hown' (And.intro hgrow hs2))
            clear hown' hgrow hs2
            go_wp2_with (fail)
            go_roundg (n - (k + 1))
            case measure => have := C.out.2.2.2.2; omega
            case rel =>
              have hx2 : BelowX wo.heap.size (w.heap.size + 1 + 1) wo w2 := (F.out.2.1.alloc hs7 (.cells #[.int .i64 (k : Int)] 3)).grown L.out.2.1 (by simp; omega) (fun q hq => (F.out.2.2.2.2.2.1.lt q hq).1)
              refine ⟨k + 1, rfl, hkn, rfl, hx2.setCell (.inl rfl) _, ?_, ?_⟩
              · have hb : mrkT T Dn r (k + 1) k = true := by unfold mrkT; rw [decide_eq_true (Nat.lt_succ_self k), F.out.1]; simp
                have he : (mrkC (mrkT T Dn r k)).setIfInBounds k (.bool true) = mrkC (mrkT T Dn r (k + 1)) := vecC_set hk6 (by rw [hb]) (fun j _ hj => by
                  have : mrkT T Dn r (k + 1) j = mrkT T Dn r k j := by
                    unfold mrkT
                    by_cases h1 : j < k
                    · rw [decide_eq_true h1, decide_eq_true (show j < k + 1 by omega)]
                    · rw [decide_eq_false h1, decide_eq_false (show ¬ j < k + 1 by omega)]
                  rw [this])
                rw [← he]
                exact L.out.2.2.set_ k (.bool true)
              · have hm : memT T r (k + 1) = memT T r k ++ [k] := by rw [memT_succ, if_pos F.out.1]
                rw [hm]
                unfold OwnN
                rw [natC_snoc, List.length_append]
                exact own_setCell L.out.1 L.out.2.2 (by decide) _
          | false =>
            have F := Lib.hid (And.intro htk (And.intro hbx2 (And.intro hmk2 hol2)))
            clear htk hbx2 hmk2 hol2 h2
            go_wp2_with (fail)
            go_roundg (n - (k + 1))
            case measure => have := C.out.2.2.2.2; omega
            case rel =>
              refine ⟨k + 1, rfl, hkn, rfl, F.out.2.1, ?_, ?_⟩
              · rw [mrkC_congr (D := mrkT T Dn r (k + 1)) (D' := mrkT T Dn r k) (fun j _ => by
                  unfold mrkT
                  by_cases h1 : j = k
                  · subst h1; rw [F.out.1, Bool.and_false, Bool.and_false]
                  · by_cases h2 : j < k
                    · rw [decide_eq_true h2, decide_eq_true (show j < k + 1 by omega)]
                    · rw [decide_eq_false h2, decide_eq_false (show ¬ j < k + 1 by omega)])]
                exact F.out.2.2.1
              · rw [memT_succ, F.out.1, if_neg (by decide)]
                exact F.out.2.2.2
        · have ek : k = n := by omega
          subst k
          have hown0 : OwnLL wr w.heap.size u5 (ps.map (mem_ n T)) := B.out.2.2.2.2.1.keep (fun q t cs _ hq' ht' => hbx.blk hq' hq'.lt (hq'.ne_ B.out.2.2.2.2.2.2.2.2.1 (by rintro rfl; rcases ht' with h | h <;> exact absurd h (by decide))))
          obtain ⟨vs, ho1, ho2⟩ := hown0
          obtain ⟨la, lc, rfl⟩ := own_slice hol
          rw [List.length_map] at ho1
          have hone := own_one hol
          have al := gr_alloc (Below.refl wr.heap.size wr) (.cells #[.slice la (memT T r n).length lc] 25)
          have C := Lib.hid (And.intro (show (wr.alloc (.cells #[.slice la (memT T r n).length lc] 25)).cell? ⟨wr.heap.size, 0, none⟩ = some (.slice la (memT T r n).length lc) from (Blk.new wr 25 #[.slice la (memT T r n).length lc]).cell' rfl)
            (And.intro (own_below ho1 al (Nat.le_refl _)) (And.intro (own_below hol al (Nat.le_refl _)) (And.intro (ho2.keep (W' := wr.alloc (.cells #[.slice la (memT T r n).length lc] 25)) (fun q cs _ hq => hq.alloc _)) (And.intro (hmk.alloc (.cells #[.slice la (memT T r n).length lc] 25))
            (And.intro (kk0.alloc (.cells #[.slice la (memT T r n).length lc] 25)) (And.intro (kk1.alloc (.cells #[.slice la (memT T r n).length lc] 25)) hbx)))))))
          have hbw := B.out.2.2.2.2.2.1.size
          clear hbx hmk hol ho1 ho2 kk0 kk1 al hq hkn
          go_wp2_with (at_builtin; refine app_one rfl _ _ (t := 41) rfl w.heap.size Try.underlying41 infoInts rfl (by decide) _ _ _ rfl C.out.2.1 wr.heap.size (.slice la (memT T r n).length lc) rfl C.out.1 hone (by omega) (by simp; omega) ?_)
          intro v' w2 hown' hgrow _
          have hkeep : ∀ q t cs, Blk (wr.alloc (.cells #[.slice la (memT T r n).length lc] 25)) q t cs → t ≠ 25 → Blk w2 q t cs := fun q t cs hq ht => hq.grown hgrow (own_blk_ne C.out.2.1 hq (fun e => ht e.symm))
          have e0 := hkeep _ _ _ C.out.2.2.2.2.2.1 (by decide)
          have e1 := hkeep _ _ _ C.out.2.2.2.2.2.2.1 (by decide)
          have e2 := hkeep _ _ _ C.out.2.2.2.2.1 (by decide)
          have hx2 : BelowX wo.heap.size (w.heap.size + 1 + 1) wo (wr.alloc (.cells #[.slice la (memT T r n).length lc] 25)) := C.out.2.2.2.2.2.2.2.alloc hs6 _
          have hb2 : Below w.heap.size w (wr.alloc (.cells #[.slice la (memT T r n).length lc] 25)) := B.out.2.2.2.2.2.1.trans (hx2.below hbw (by omega))
          have hb3 := hb2.grown hgrow (by simp; omega) (fun q hq => (C.out.2.1.lt q hq).1)
          have hll2 : OwnLL w2 w.heap.size v' ((ps ++ [r]).map (mem_ n T)) := by
            rw [List.map_append]
            refine ⟨vs ++ [.slice la (memT T r n).length lc], ?_, InnN.snoc ?_ (C.out.2.2.2.1.keep (fun q cs _ hq => hkeep _ _ _ hq (by decide)))⟩
            · rw [List.length_append, List.length_map]
              exact hown'
            · exact own_weaken (own_blks C.out.2.2.1 (fun q cs _ hq => hkeep _ _ _ hq (by decide))) hbw
          have rA := e0.cell' (i := 0) rfl
          have rB := e0.cell' (i := 1) rfl
          have rl2 := e0.lt
          have rN := range_blk e1
          have rM := range_blk e2
          have hi72 : (Try.prog.info? 71).map (·.size) = some (mrkC (mrkT T Dn r n)).toList.length := by rw [Array.length_toList, mrkC_size]; exact infoMrk
          have hf1' : Calls Try.prog 66 #[.agg #[.int .i64 (n : Int), ev], .agg ct, .agg (mrkC (mrkT T Dn r n))] w2 fun e w' => e = .returned (.int .i64 (firstV n T (mrkT T Dn r n))) ∧ Below w2.heap.size w2 w' := by
            rw [HC.out]
            exact first_ref n hn T _ ev w2
          obtain ⟨va', vc', hv'⟩ := own_slice hown'
          have L := Lib.hid (And.intro hll2 (And.intro hb3 (And.intro e0 (And.intro e1 (And.intro e2 hf1')))))
          clear hown' hgrow hkeep e0 e1 e2 hx2 hb2 hb3 hll2 hf1' hv'
          go_wp2_with (first | refine wpList_load_mid rfl 73 _ rfl (w.heap.size + 1) 0 (by rfl) ct.toList _ rN Try.underlying73 rfl hi1 ?_ | refine wpList_load_mid rfl 71 _ rfl (w.heap.size + 1 + 1) 0 (by rfl) (mrkC (mrkT T Dn r n)).toList _ rM Try.underlying71 rfl hi72 ?_)
          clear rN rM
          refine L.out.2.2.2.2.2.mono ?_
          rintro e W3 ⟨rfl, h3⟩
          have P := Lib.hid (And.intro (L.out.1.below h3) (And.intro (gr_call L.out.2.1 h3) (And.intro (L.out.2.2.1.call h3) (And.intro (L.out.2.2.2.1.call h3) (L.out.2.2.2.2.1.call h3)))))
          clear h3
          go_wp2_with (fail)
          go_roundg (left.erase r).length
          case measure =>
            have h1 := List.length_erase_of_mem B.out.2.2.2.2.2.2.2.2.2.2
            have h2 := List.length_pos_of_mem B.out.2.2.2.2.2.2.2.2.2.2
            have := B.out.1
            omega
          case rel =>
            have hlo := B.out.2.1
            have hrl := B.out.2.2.2.2.2.2.2.2.2.2
            refine ⟨left.erase r, ps ++ [r], mrkT T Dn r n, rfl, hlo.erase r, ?_, fun k hk => ?_, rfl, P.out.1, P.out.2.1, P.out.2.2.1, P.out.2.2.2.1, P.out.2.2.2.2⟩
            · rw [B.out.2.2.1, ordR_step K.out.2.2.2.2 hlo B.out.2.2.2.2.2.2.2.2.2.1, List.append_assoc]; rfl
            · rw [done_next K.out.2.2.2.2 hlo hrl]
              unfold mrkT
              rw [B.out.2.2.2.1 k hk, decide_eq_true hk, Bool.true_and]
end Go.Proofs.Ytjgkiiohbceocaa
