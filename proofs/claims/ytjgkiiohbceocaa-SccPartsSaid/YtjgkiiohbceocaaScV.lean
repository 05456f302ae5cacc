/-
  The reference's table of what is reached, walked; conditions: a valid graph of at most 1000000 edges.
-/
import Derived.Test.YtjgkiiohbceocaaScU
namespace Go.Proofs.Ytjgkiiohbceocaa
open Go.RowKit
set_option linter.unusedVariables false
set_option linter.unusedSimpArgs false

/-- A round of the closure, as far as row i and column j. -/
def wst2 (k i j : Nat) (T : Nat → Nat → Bool) : Nat → Nat → Bool := fun a b => if a < i ∨ (a = i ∧ b < j) then wst k T a b else T a b
theorem wst2_ij (k i j : Nat) (T : Nat → Nat → Bool) : wst2 k i j T i j = T i j := by unfold wst2; rw [if_neg (by omega)]
theorem wst2_ik (k i j : Nat) (T : Nat → Nat → Bool) (a : Nat) : wst2 k i j T a k = T a k := by
  unfold wst2
  split
  · exact wst_col k T a
  · rfl
theorem wst2_kj (k i j : Nat) (T : Nat → Nat → Bool) (b : Nat) : wst2 k i j T k b = T k b := by
  unfold wst2
  split
  · exact wst_row k T b
  · rfl
theorem wst2_start (k : Nat) (T : Nat → Nat → Bool) : wst2 k 0 0 T = T := by
  funext a b
  unfold wst2
  rw [if_neg (by omega)]
theorem wst2_set {k i j : Nat} {T : Nat → Nat → Bool} : wst2 k i (j + 1) T i j = (T i j || (T i k && T k j)) := by
  unfold wst2
  rw [if_pos (by omega)]
  rfl
theorem wst2_far {k i j a b : Nat} {T : Nat → Nat → Bool} (h : ¬ (a = i ∧ b = j)) : wst2 k i (j + 1) T a b = wst2 k i j T a b := by
  unfold wst2
  by_cases h1 : a < i ∨ (a = i ∧ b < j)
  · rw [if_pos h1, if_pos (by omega)]
  · rw [if_neg h1, if_neg (by omega)]
theorem wst2_row {n k i : Nat} {T : Nat → Nat → Bool} (h : Within n T) : wst2 k i n T = wst2 k (i + 1) 0 T := by
  funext a b
  unfold wst2
  by_cases h1 : a < i ∨ (a = i ∧ b < n)
  · rw [if_pos h1, if_pos (by omega)]
  · rw [if_neg h1]
    by_cases h2 : a < i + 1 ∨ (a = i + 1 ∧ b < 0)
    · rw [if_pos h2]
      have hb : n ≤ b := by omega
      unfold wst
      cases e : T k b with
      | false => rw [Bool.and_false, Bool.or_false]
      | true => have := (h k b e).2; omega
    · rw [if_neg h2]
theorem wst2_end {n k : Nat} {T : Nat → Nat → Bool} (h : Within n T) : wst2 k n 0 T = wst k T := by
  funext a b
  unfold wst2
  by_cases h1 : a < n ∨ (a = n ∧ b < 0)
  · rw [if_pos h1]
  · rw [if_neg h1]
    have hb : n ≤ a := by omega
    unfold wst
    cases e : T a k with
    | false => rw [Bool.false_and, Bool.or_false]
    | true => have := (h a k e).1; omega

set_option maxRecDepth 100000 in
set_option maxHeartbeats 8000000 in
theorem reaches_ref (n : Nat) (hn : n ≤ 64) (l : List Edg) (hl : l.length ≤ 1000000) (hv : ∀ e ∈ l, okEd n e) (A : Option Addr) (c : Nat) (w : World) (hA : Cells w A 2 l.length (edAt l)) :
    Calls Try.prog 45 #[.agg #[.int .i64 (n : Int), .slice A l.length c]] w fun e w' => e = .returned (.agg (tabC (rea n (relE l)))) ∧ Below w.heap.size w w' := by
  have b0 := gr_alloc (gr_alloc (Below.refl w.heap.size w) (.cells #[.int .i64 (n : Int), .slice A l.length c] 24)) (.cells (tabC noR) 73)
  have k0 : Blk ((w.alloc (.cells #[.int .i64 (n : Int), .slice A l.length c] 24)).alloc (.cells (tabC noR) 73)) w.heap.size 24 #[.int .i64 (n : Int), .slice A l.length c] := (Blk.new w _ _).alloc _
  have k1 : Blk ((w.alloc (.cells #[.int .i64 (n : Int), .slice A l.length c] 24)).alloc (.cells (tabC noR) 73)) (w.heap.size + 1) 73 (tabC noR) := blk_at (by simp)
  have hdi := direct_ref n hn l hl hv A c _ (hA.below b0)
  have hw := relE_within hv
  have K := Lib.hid (And.intro b0 (And.intro k0 (And.intro k1 (And.intro hw hdi))))
  have hn' : (n : Int) ≤ 64 := by omega
  clear b0 k0 k1 hA hv hw hdi hl
  go_enter Try.func45, Try.ntmps45
  go_wp2_with (fail)
  rw [zero_tab]
  refine K.out.2.2.2.2.mono ?_
  rintro e W1 ⟨rfl, h1⟩
  have k0 := K.out.2.1.call h1
  have k1 := K.out.2.2.1.call h1
  have b1 := gr_call K.out.1 h1
  have bz := b1.size
  have b2 := gr_alloc b1 (.cells (tabC noR) 73)
  have kt := Blk.new W1 73 (tabC noR)
  have ka := k0.alloc (.cells (tabC noR) 73)
  have kb := k1.alloc (.cells (tabC noR) 73)
  have l1 := k1.lt
  have hsz : (tabC (relE l)).size = (tabC noR).size := by rw [tabC_size, tabC_size]
  have thr := there_blk kt (tabC (relE l)).size hsz
  have hi2 : (Try.prog.info? 73).map (·.size) = some (tabC (relE l)).size := by rw [tabC_size]; exact infoTab
  have hall := tabC_one (relE l)
  have kt' := kt.stored hsz
  have ka' := ka.farCells (b := W1.heap.size) (by omega) (tabC (relE l)).toList 0
  have kb' := kb.farCells (b := W1.heap.size) (by omega) (tabC (relE l)).toList 0
  have b2' := gr_setCells (b := W1.heap.size) (tabC (relE l)).toList 0 b2 bz
  obtain ⟨wx, hwx⟩ : ∃ wx, (W1.alloc (.cells (tabC noR) 73)).setCells W1.heap.size 0 (tabC (relE l)).toList = wx := ⟨_, rfl⟩
  rw [hwx] at kt' ka' kb' b2'
  have hgs : w.heap.size + 1 < W1.heap.size := by omega
  have D := Lib.hid (And.intro b2' (And.intro ka' (And.intro kb' kt')))
  obtain ⟨cs, hcs⟩ : ∃ cs, cs = tabC (relE l) := ⟨_, rfl⟩
  rw [← hcs] at thr hi2 hall hwx ⊢
  clear h1 k0 k1 b1 b2 kt ka kb kt' ka' kb' b2' hsz hcs
  go_wp2_with (refine wpList_store_mid rfl 73 _ _ rfl W1.heap.size 0 cs rfl rfl (by rw [zero_tab]; exact thr) hi2 hall ?_; rw [zero_tab, hwx])
  have hw2 : w.heap.size ≤ W1.heap.size := by omega
  clear hi2 thr hall hwx
  go_loopg [4] n (fun q kv wr => ∃ k : Nat, q = n - k ∧ k ≤ n ∧ kv = .int .i64 (k : Int) ∧ Below w.heap.size w wr ∧ Blk wr w.heap.size 24 #[.int .i64 (n : Int), .slice A l.length c] ∧ Blk wr (w.heap.size + 1) 73 (tabC noR) ∧ Blk wr W1.heap.size 73 (tabC (clo (relE l) k)))
  case atStart => exact ⟨0, rfl, Nat.zero_le _, rfl, D.out.1, D.out.2.1, D.out.2.2.1, D.out.2.2.2⟩
  case round =>
    obtain ⟨k, hq, hk, rfl, hbel, hg, hr, hx⟩ := hrel
    have r0 := hg.cell' (i := 0) rfl
    have gl := hg.lt
    by_cases hkn : k < n
    · have hk' : (k : Int) < (n : Int) := by omega
      have hwi : Within n (clo (relE l) k) := clo_within K.out.2.2.2.1 k
      obtain ⟨T, hT⟩ : ∃ T, T = clo (relE l) k := ⟨_, rfl⟩
      rw [← hT] at hx hwi
      have B := Lib.hid (And.intro hbel (And.intro hg (And.intro hr (And.intro hx (And.intro hq (And.intro hwi hT))))))
      clear hbel hg hr hx hq hwi hT
      go_wp2_with (fail)
      go_loopg [5] n (fun q iv wr => ∃ i : Nat, q = n - i ∧ i ≤ n ∧ iv = .int .i64 (i : Int) ∧ Below w.heap.size w wr ∧ Blk wr w.heap.size 24 #[.int .i64 (n : Int), .slice A l.length c] ∧ Blk wr (w.heap.size + 1) 73 (tabC noR) ∧ Blk wr W1.heap.size 73 (tabC (wst2 k i 0 T)))
      case atStart => exact ⟨0, rfl, Nat.zero_le _, rfl, B.out.1, B.out.2.1, B.out.2.2.1, by rw [wst2_start]; exact B.out.2.2.2.1⟩
      case round =>
        obtain ⟨i, hq, hi, rfl, hbel, hg, hr, hx⟩ := hrel
        have r0 := hg.cell' (i := 0) rfl
        have gl := hg.lt
        by_cases hin : i < n
        · have hi' : (i : Int) < (n : Int) := by omega
          have C := Lib.hid (And.intro hbel (And.intro hg (And.intro hr (And.intro hx hq))))
          clear hbel hg hr hx hq
          go_wp2_with (fail)
          go_loopg [6] n (fun q jv wr => ∃ j : Nat, q = n - j ∧ j ≤ n ∧ jv = .int .i64 (j : Int) ∧ Below w.heap.size w wr ∧ Blk wr w.heap.size 24 #[.int .i64 (n : Int), .slice A l.length c] ∧ Blk wr (w.heap.size + 1) 73 (tabC noR) ∧ Blk wr W1.heap.size 73 (tabC (wst2 k i j T)))
          case atStart => exact ⟨0, rfl, Nat.zero_le _, rfl, C.out.1, C.out.2.1, C.out.2.2.1, C.out.2.2.2.1⟩
          case round =>
            obtain ⟨j, hq, hj, rfl, hbel, hg, hr, hx⟩ := hrel
            have r0 := hg.cell' (i := 0) rfl
            have gl := hg.lt
            by_cases hjn : j < n
            · have hj' : (j : Int) < (n : Int) := by omega
              have hi6 : i < 64 := by omega
              have hj6 : j < 64 := by omega
              have hk6 : k < 64 := by omega
              have hi7 : (i : Int) < 64 := by omega
              have hj7 : (j : Int) < 64 := by omega
              have hk7 : (k : Int) < 64 := by omega
              have cij := hx.cell' (tabC_at (wst2 k i j T) hi6 hj6)
              have cik := hx.cell' (tabC_at (wst2 k i j T) hi6 hk6)
              have ckj := hx.cell' (tabC_at (wst2 k i j T) hk6 hj6)
              rw [wst2_ij] at cij
              rw [wst2_ik] at cik
              rw [wst2_kj] at ckj
              have xf := hx.frozen (i * 64 + j)
              have xl := hx.lt
              have hst : wst2 k i (j + 1) T i j = (T i j || (T i k && T k j)) := wst2_set
              have F := Lib.hid (And.intro hbel (And.intro hg (And.intro hr (And.intro hx (And.intro hq hst)))))
              clear hbel hg hr hx hq hst
              obtain ⟨b1, hb1⟩ : ∃ b, b = T i j := ⟨_, rfl⟩
              obtain ⟨b2, hb2⟩ : ∃ b, b = T i k := ⟨_, rfl⟩
              obtain ⟨b3, hb3⟩ : ∃ b, b = T k j := ⟨_, rfl⟩
              rw [← hb1] at cij F
              rw [← hb2] at cik F
              rw [← hb3] at ckj F
              clear hb1 hb2 hb3
              have fin : ∀ (b : Bool), (b1 || (b2 && b3)) = b → ∃ j', n - (j + 1) = n - j' ∧ j' ≤ n ∧ Value.int .i64 ((j : Int) + 1) = .int .i64 ((j' : Nat) : Int) ∧ Below w.heap.size w (wr.setCell ⟨W1.heap.size, i * 64 + j, none⟩ (.bool b)).drew ∧ Blk (wr.setCell ⟨W1.heap.size, i * 64 + j, none⟩ (.bool b)).drew w.heap.size 24 #[.int .i64 (n : Int), .slice A l.length c] ∧ Blk (wr.setCell ⟨W1.heap.size, i * 64 + j, none⟩ (.bool b)).drew (w.heap.size + 1) 73 (tabC noR) ∧ Blk (wr.setCell ⟨W1.heap.size, i * 64 + j, none⟩ (.bool b)).drew W1.heap.size 73 (tabC (wst2 k i j' T)) := by
                intro b hb
                have hbb := gr_set F.out.1 (p := ⟨W1.heap.size, i * 64 + j, none⟩) hw2 (.bool b)
                refine ⟨j + 1, rfl, hjn, rfl, ⟨hbb.os, hbb.tape, hbb.output, hbb.size, hbb.block⟩, (F.out.2.1.far (by show w.heap.size ≠ W1.heap.size; omega) _).drew, (F.out.2.2.1.far (by show w.heap.size + 1 ≠ W1.heap.size; omega) _).drew, ?_⟩
                rw [← tabC_set (T := wst2 k i j T) (U := wst2 k i (j + 1) T) (b := b) hi6 hj6 (by rw [F.out.2.2.2.2.2, hb]) (fun a c' hne => wst2_far hne)]
                exact (F.out.2.2.2.1.set_ _ _).drew
              have FIN := Lib.hid fin
              clear fin
              cases b1 <;> cases b2 <;> cases b3 <;>
                (go_wp2_with (fail)
                 go_region
                 all_goals
                   go_wp2_with (fail)
                   go_roundg (n - (j + 1))
                   case measure => have := F.out.2.2.2.2.1; omega
                   case rel => exact FIN.out _ rfl)
            · have ej : j = n := by omega
              subst j
              rw [wst2_row B.out.2.2.2.2.2.1] at hx
              have F := Lib.hid (And.intro hbel (And.intro hg (And.intro hr hx)))
              clear hbel hg hr hx hq hjn
              go_wp2_with (fail)
              go_roundg (n - (i + 1))
              case measure => have := C.out.2.2.2.2; omega
              case rel => exact ⟨i + 1, rfl, hin, rfl, F.out.1, F.out.2.1, F.out.2.2.1, F.out.2.2.2⟩
        · have ei : i = n := by omega
          subst i
          rw [wst2_end B.out.2.2.2.2.2.1] at hx
          have C := Lib.hid (And.intro hbel (And.intro hg (And.intro hr hx)))
          clear hbel hg hr hx hq hin
          go_wp2_with (fail)
          go_roundg (n - (k + 1))
          case measure => have := B.out.2.2.2.2.1; omega
          case rel => exact ⟨k + 1, rfl, hkn, rfl, C.out.1, C.out.2.1, C.out.2.2.1, by have h9 := C.out.2.2.2; rw [B.out.2.2.2.2.2.2] at h9; exact h9⟩
    · have ek : k = n := by omega
      subst k
      have rN := range_blk hx
      have hsz : (tabC (clo (relE l) n)).size = (tabC noR).size := by rw [tabC_size, tabC_size]
      have thr := there_blk hr (tabC (clo (relE l) n)).size hsz
      have hall := tabC_one (clo (relE l) n)
      have hi2 : (Try.prog.info? 73).map (·.size) = some (tabC (clo (relE l) n)).size := by rw [tabC_size]; exact infoTab
      have hi1 : (Try.prog.info? 73).map (·.size) = some (tabC (clo (relE l) n)).toList.length := by rw [Array.length_toList]; exact hi2
      have bb := gr_setCells (b := w.heap.size + 1) (tabC (clo (relE l) n)).toList 0 hbel (by omega)
      have rX := range_blk (hr.stored hsz)
      obtain ⟨wx, hwx⟩ : ∃ wx, wr.setCells (w.heap.size + 1) 0 (tabC (clo (relE l) n)).toList = wx := ⟨_, rfl⟩
      rw [hwx] at bb rX
      have hfin := run_loadVar_mid (P := Try.prog) wx (w.heap.size + 1) 0 73 (tabC (clo (relE l) n)).toList _ rX Try.underlying73 rfl hi1
      rw [Array.toArray_toList] at hfin
      obtain ⟨ct, hct⟩ : ∃ ct, ct = tabC (clo (relE l) n) := ⟨_, rfl⟩
      have hct' : tabC (rea n (relE l)) = ct := hct.symm
      rw [← hct] at rN thr hall hi2 hi1 hwx hfin
      have B := Lib.hid (And.intro bb (And.intro hfin hct'))
      clear hbel hg hx hq hkn hr bb rX hfin hsz hct hct'
      go_wp2_with (first | refine wpList_load_mid rfl 73 _ rfl W1.heap.size 0 rfl ct.toList _ rN Try.underlying73 rfl hi1 ?_ | (refine wpList_store_mid rfl 73 _ _ rfl (w.heap.size + 1) 0 ct rfl rfl thr hi2 hall ?_; rw [hwx]; clear rN thr hi1 hi2 hall hwx))
      refine bodyPost_ret (v := .agg ct) ?_ rfl ⟨by rw [B.out.2.2], B.out.1⟩
      have hf := B.out.2.1
      simp [results, Try.results45, Act.put, asAddr, Result.andThen, hf]
end Go.Proofs.Ytjgkiiohbceocaa
