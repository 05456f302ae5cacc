/-
  The reference's table of edges, walked; conditions: a valid graph of at most 1000000 edges.
-/
import Derived.Test.YtjgkiiohbceocaaScT
import Derived.Deep.WholeRow
namespace Go.Proofs.Ytjgkiiohbceocaa
open Go.RowKit
set_option linter.unusedVariables false
set_option linter.unusedSimpArgs false

/-- The cells of a table. -/
def tabC (T : Nat → Nat → Bool) : Array Value := vecC 4096 fun t => .bool (T (t / 64) (t % 64))
theorem tabC_size (T : Nat → Nat → Bool) : (tabC T).size = 4096 := vecC_size _ _
theorem tabC_at (T : Nat → Nat → Bool) {i j : Nat} (hi : i < 64) (hj : j < 64) : (tabC T)[i * 64 + j]? = some (.bool (T i j)) := by
  unfold tabC
  rw [vecC_at _ (show i * 64 + j < 4096 by omega), show (i * 64 + j) / 64 = i by omega, show (i * 64 + j) % 64 = j by omega]
theorem tabC_set {T U : Nat → Nat → Bool} {i j : Nat} {b : Bool} (hi : i < 64) (hj : j < 64) (hb : U i j = b) (h : ∀ a c, ¬ (a = i ∧ c = j) → U a c = T a c) : (tabC T).setIfInBounds (i * 64 + j) (.bool b) = tabC U := by
  unfold tabC
  refine vecC_set (by omega) ?_ (fun t ht hne => ?_)
  · rw [show (i * 64 + j) / 64 = i by omega, show (i * 64 + j) % 64 = j by omega, hb]
  · rw [h _ _ (fun hh => hne (by omega))]
theorem tabC_one (T : Nat → Nat → Bool) : (tabC T).all (·.oneCell') = true := by
  rw [Array.all_eq_true_iff_forall_mem]
  intro v hv
  unfold tabC vecC at hv
  simp at hv
  obtain ⟨t, _, rfl⟩ := hv
  rfl
set_option maxRecDepth 1000000 in
theorem zero_tab : Try.zeroCells73 = tabC noR := by
  have e : tabC noR = ((List.range 4096).map (fun _ => Value.bool false)).toArray := rfl
  rw [e]
  rfl
theorem infoTab : (Try.prog.info? 73).map (·.size) = some 4096 := by kernel_rfl
theorem relE_zero : relE [] = noR := by funext a b; rfl
/-- A whole table is stored into a variable. -/
theorem there_blk {w : World} {b : Nat} {t : TypeId} {cs : Array Value} (h : Blk w b t cs) (n : Nat) (hn : n = cs.size) : w.there b 0 n := by
  intro j hj
  refine ⟨?_, h.frozen _⟩
  rw [Nat.zero_add, h.cell, Array.getElem?_eq_getElem (by omega)]; rfl
theorem setL_all (cs : Array Value) (vs : Array Value) (h : vs.size = cs.size) : setL cs 0 vs.toList = vs := by
  apply Array.ext_getElem?
  intro k
  rw [setL_get _ _ _ _ (by simp; omega)]
  by_cases hk : k < vs.size
  · rw [if_pos (by simp; exact hk), Nat.sub_zero, Array.getElem?_toList]
  · rw [if_neg (by simp; omega), Array.getElem?_eq_none (by omega), Array.getElem?_eq_none (by omega)]
theorem Blk.stored {w : World} {b : Nat} {t : TypeId} {cs vs : Array Value} (h : Blk w b t cs) (hs : vs.size = cs.size) : Blk (w.setCells b 0 vs.toList) b t vs := by
  have := h.setCells vs.toList 0
  rwa [setL_all _ _ hs] at this
theorem range_blk {w : World} {b : Nat} {t : TypeId} {cs : Array Value} (h : Blk w b t cs) : w.rangeAt b 0 cs.toList := by
  have := World.rangeAt_of_block h 0 cs.size
  rwa [show cs.extract 0 (0 + cs.size) = cs from by rw [Nat.zero_add, Array.extract_size]] at this
set_option maxRecDepth 100000 in
set_option maxHeartbeats 4000000 in
theorem direct_ref (n : Nat) (hn : n ≤ 64) (l : List Edg) (hl : l.length ≤ 1000000) (hv : ∀ e ∈ l, okEd n e) (A : Option Addr) (c : Nat) (w : World) (hA : Cells w A 2 l.length (edAt l)) :
    Calls Try.prog 46 #[.agg #[.int .i64 (n : Int), .slice A l.length c]] w fun e w' => e = .returned (.agg (tabC (relE l))) ∧ Below w.heap.size w w' := by
  have b0 := gr_alloc (gr_alloc (gr_alloc (Below.refl w.heap.size w) (.cells #[.int .i64 (n : Int), .slice A l.length c] 24)) (.cells (tabC noR) 73)) (.cells (tabC noR) 73)
  have k0 : Blk (((w.alloc (.cells #[.int .i64 (n : Int), .slice A l.length c] 24)).alloc (.cells (tabC noR) 73)).alloc (.cells (tabC noR) 73)) w.heap.size 24 #[.int .i64 (n : Int), .slice A l.length c] := ((Blk.new w _ _).alloc _).alloc _
  have k1 : Blk (((w.alloc (.cells #[.int .i64 (n : Int), .slice A l.length c] 24)).alloc (.cells (tabC noR) 73)).alloc (.cells (tabC noR) 73)) (w.heap.size + 1) 73 (tabC noR) := (blk_at (by simp)).alloc _
  have k2 : Blk (((w.alloc (.cells #[.int .i64 (n : Int), .slice A l.length c] 24)).alloc (.cells (tabC noR) 73)).alloc (.cells (tabC noR) 73)) (w.heap.size + 1 + 1) 73 (tabC noR) := blk_at (by simp)
  obtain ⟨ln, hln⟩ : ∃ ln, ln = l.length := ⟨_, rfl⟩
  have K := Lib.hid (And.intro b0 (And.intro k0 (And.intro k1 (And.intro k2 (And.intro hA hv)))))
  have HN := Lib.hid hln
  rw [← hln] at hl K ⊢
  clear b0 k0 k1 k2 hA hv hln
  go_enter Try.func46, Try.ntmps46
  go_wp2_with (fail)
  rw [zero_tab]
  go_loopg [4] ln (fun q iv wr => ∃ k : Nat, q = ln - k ∧ k ≤ ln ∧ iv = .int .i64 (k : Int) ∧ Below w.heap.size w wr ∧ Blk wr w.heap.size 24 #[.int .i64 (n : Int), .slice A ln c] ∧ Blk wr (w.heap.size + 1) 73 (tabC noR) ∧ Blk wr (w.heap.size + 1 + 1) 73 (tabC (relE (l.take k))))
  case atStart => exact ⟨0, rfl, Nat.zero_le _, rfl, K.out.1, K.out.2.1, K.out.2.2.1, by rw [List.take_zero, relE_zero]; exact K.out.2.2.2.1⟩
  case round =>
    obtain ⟨k, hq, hk, rfl, hbel, hg, hr, hx⟩ := hrel
    have r1 := hg.cell' (i := 1) rfl
    have gl := hg.lt
    by_cases hlt : k < ln
    · obtain ⟨e, hp⟩ : ∃ e, l[k]? = some e := ⟨_, List.getElem?_eq_getElem (by rw [← HN.out]; exact hlt)⟩
      have hA1 := K.out.2.2.2.2.1.below hbel
      rw [HN.out] at hA1
      obtain ⟨ab, ao, rfl, hab, c0, c1⟩ := cells_edg hA1 hp
      obtain ⟨o1, o2, o3, o4⟩ := K.out.2.2.2.2.2 e (List.mem_of_getElem? hp)
      obtain ⟨i, hi⟩ : ∃ i : Nat, e.f = (i : Int) := ⟨e.f.toNat, by omega⟩
      obtain ⟨j, hj⟩ : ∃ j : Nat, e.t = (j : Int) := ⟨e.t.toNat, by omega⟩
      have hi6 : i < 64 := by omega
      have hj6 : j < 64 := by omega
      have hi7 : (i : Int) < 64 := by omega
      have hj7 : (j : Int) < 64 := by omega
      have hkl : (k : Int) < (ln : Int) := by omega
      rw [hi] at c0
      rw [hj] at c1
      have cx := hx.cell' (tabC_at (relE (l.take k)) hi6 hj6)
      have xf := hx.frozen (i * 64 + j)
      have xl := hx.lt
      have B := Lib.hid (And.intro hbel (And.intro hg (And.intro hr (And.intro hx (And.intro hq (And.intro hp (And.intro hi hj)))))))
      clear hbel hg hr hx hq hp hi hj o1 o2 o3 o4 hA1
      go_wp2_with (fail)
      go_region
      go_wp2_with (fail)
      go_roundg (ln - (k + 1))
      case measure => have := B.out.2.2.2.2.1; omega
      case rel =>
        have ht : l.take (k + 1) = l.take k ++ [e] := by rw [List.take_add_one, B.out.2.2.2.2.2.1]; rfl
        have hE : relE (l.take (k + 1)) = insE (relE (l.take k)) i j := by rw [ht, relE_snoc _ e B.out.2.2.2.2.2.2.1 B.out.2.2.2.2.2.2.2]
        have hb := gr_set B.out.1 (p := ⟨w.heap.size + 1 + 1, i * 64 + j, none⟩) (by show w.heap.size ≤ w.heap.size + 1 + 1; omega) (.bool true)
        refine ⟨k + 1, rfl, hlt, rfl, ⟨hb.os, hb.tape, hb.output, hb.size, hb.block⟩, (B.out.2.1.far (by show w.heap.size ≠ w.heap.size + 1 + 1; omega) _).drew, (B.out.2.2.1.far (by show w.heap.size + 1 ≠ w.heap.size + 1 + 1; omega) _).drew, ?_⟩
        rw [hE, ← tabC_set (T := relE (l.take k)) (U := insE (relE (l.take k)) i j) (b := true) hi6 hj6 (by unfold insE; simp) (fun a c' hne => by
          unfold insE
          have : (decide (a = i) && decide (c' = j)) = false := by
            by_cases h1 : a = i
            · by_cases h2 : c' = j
              · exact absurd ⟨h1, h2⟩ hne
              · rw [decide_eq_false h2, Bool.and_false]
            · rw [decide_eq_false h1, Bool.false_and]
          rw [this, Bool.or_false])]
        exact (B.out.2.2.2.1.set_ _ _).drew
    · have ek : k = ln := by omega
      subst k
      rw [List.take_of_length_le (by rw [← HN.out]; exact Nat.le_refl _)] at hx
      have rN : wr.rangeAt (w.heap.size + 1 + 1) 0 (tabC (relE l)).toList := by
        have := World.rangeAt_of_block hx 0 4096
        rwa [show (tabC (relE l)).extract 0 (0 + 4096) = tabC (relE l) from by rw [Nat.zero_add, ← tabC_size (relE l), Array.extract_size]] at this
      obtain ⟨cs, hcs⟩ : ∃ cs, cs = tabC (relE l) := ⟨_, rfl⟩
      have thr : wr.there (w.heap.size + 1) 0 cs.size := by
        intro j hj
        rw [hcs, tabC_size] at hj
        refine ⟨?_, hr.frozen _⟩
        rw [Nat.zero_add, hr.cell, Array.getElem?_eq_getElem (by rw [tabC_size]; exact hj)]; rfl
      have hcz : cs.size = 4096 := by rw [hcs, tabC_size]
      have hall : cs.all (·.oneCell') = true := by rw [hcs]; exact tabC_one _
      rw [← hcs] at rN
      have hi1 : (Try.prog.info? 73).map (·.size) = some cs.toList.length := by rw [Array.length_toList, hcz]; exact infoTab
      have hi2 : (Try.prog.info? 73).map (·.size) = some cs.size := by rw [hcz]; exact infoTab
      have bb := gr_setCells (b := w.heap.size + 1) cs.toList 0 hbel (by omega)
      have rX := World.rangeAt_setCells_same wr (w.heap.size + 1) 0 cs.toList (by rw [Array.length_toList]; exact thr)
      obtain ⟨wx, hwx⟩ : ∃ wx, wr.setCells (w.heap.size + 1) 0 cs.toList = wx := ⟨_, rfl⟩
      rw [hwx] at bb rX
      have hfin := run_loadVar_mid (P := Try.prog) wx (w.heap.size + 1) 0 73 cs.toList _ rX Try.underlying73 rfl hi1
      have B := Lib.hid (And.intro bb (And.intro hcs hfin))
      clear hbel hg hx hq hlt hr hcs bb rX hfin hcz
      go_wp2_with (first | refine wpList_load_mid rfl 73 _ rfl (w.heap.size + 1 + 1) 0 rfl cs.toList _ rN Try.underlying73 rfl hi1 ?_ | (refine wpList_store_mid rfl 73 _ _ rfl (w.heap.size + 1) 0 cs rfl rfl thr hi2 hall ?_; rw [hwx]; clear rN thr hi1 hi2 hall hwx))
      refine bodyPost_ret (v := .agg (tabC (relE l))) ?_ rfl ⟨rfl, B.out.1⟩
      have hf := B.out.2.2
      rw [Array.toArray_toList, B.out.2.1] at hf
      simp [results, Try.results46, Act.put, asAddr, Result.andThen, hf]
end Go.Proofs.Ytjgkiiohbceocaa
