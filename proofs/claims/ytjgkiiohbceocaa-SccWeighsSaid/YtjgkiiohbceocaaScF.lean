/-
  of, walked; conditions: a valid graph of at most 1000000 edges.
-/
import Derived.Test.YtjgkiiohbceocaaScE
import Derived.Deep.MidRow
import Derived.KernelRfl
namespace Go.Proofs.Ytjgkiiohbceocaa
open Go.RowKit
set_option linter.unusedVariables false
set_option linter.unusedSimpArgs false

def okEd (n : Int) (e : Edg) : Prop := 0 ≤ e.f ∧ e.f < n ∧ 0 ≤ e.t ∧ e.t < n
theorem wrap_nat {P : Nat} (h : P < 18446744073709551616) : IntKind.u64.wrap (P : Int) = (P : Int) := IntWalk.u64_in _ (by omega)
def noR : Nat → Nat → Bool := fun _ _ => false
theorem rowW_no (i : Nat) : rowW noR i = 0 := by
  apply Nat.eq_of_testBit_eq
  intro k
  unfold rowW
  rw [setW_bit, Nat.zero_testBit]
  show (decide (k < 64) && false) = false
  rw [Bool.and_false]
theorem zero_links : Try.zeroCells79 = lnkC noR noR := by
  have e : lnkC noR noR = ((List.range 64).map (fun _ => Value.int .u64 0) ++ (List.range 64).map (fun _ => Value.int .u64 0)).toArray := by
    unfold lnkC
    simp only [rowW_no]
    rfl
  rw [e]
  rfl

/-! Many cells at once. -/
def setL (cs : Array Value) (o : Nat) : List Value → Array Value
  | [] => cs
  | v :: r => setL (cs.setIfInBounds o v) (o + 1) r
theorem setL_get : ∀ (vs : List Value) (cs : Array Value) (o k : Nat), o + vs.length ≤ cs.size → (setL cs o vs)[k]? = if o ≤ k ∧ k < o + vs.length then vs[k - o]? else cs[k]?
  | [], cs, o, k, h => by
    unfold setL
    rw [if_neg (by simp)]
  | v :: r, cs, o, k, h => by
    unfold setL
    rw [List.length_cons] at h ⊢
    rw [setL_get r (cs.setIfInBounds o v) (o + 1) k (by simp; omega)]
    by_cases h1 : k = o
    · subst h1
      rw [if_neg (by omega), if_pos (by omega), Nat.sub_self, List.getElem?_cons_zero, Array.getElem?_setIfInBounds, if_pos rfl, if_pos (by omega)]
    · by_cases h2 : o + 1 ≤ k ∧ k < o + 1 + r.length
      · rw [if_pos h2, if_pos (by omega), show k - o = (k - (o + 1)) + 1 by omega, List.getElem?_cons_succ]
      · rw [if_neg h2, if_neg (by omega), Array.getElem?_setIfInBounds, if_neg (fun e => h1 e.symm)]
theorem Blk.setCells {b : Nat} {t : TypeId} : ∀ (vs : List Value) {w : World} {cs : Array Value} (o : Nat), Blk w b t cs → Blk (w.setCells b o vs) b t (setL cs o vs)
  | [], w, cs, o, h => h
  | v :: r, w, cs, o, h => by
    rw [World.setCells]
    exact Blk.setCells r (o + 1) (h.set_ o v)
theorem gr_setCells {b : Nat} {w : World} : ∀ (vs : List Value) {W : World} (o : Nat), Below w.heap.size w W → w.heap.size ≤ b → Below w.heap.size w (W.setCells b o vs)
  | [], W, o, h, hb => h
  | v :: r, W, o, h, hb => by
    rw [World.setCells]
    exact gr_setCells r (o + 1) (gr_set h (p := ⟨b, o, none⟩) hb v) hb
theorem Blk.farCells {g b : Nat} {t : TypeId} {cs : Array Value} (hne : g ≠ b) : ∀ (vs : List Value) {w : World} (o : Nat), Blk w g t cs → Blk (w.setCells b o vs) g t cs
  | [], w, o, h => h
  | v :: r, w, o, h => by
    rw [World.setCells]
    exact Blk.farCells hne r (o + 1) (h.far (p := ⟨b, o, none⟩) hne v)
theorem lnkC_at (E R : Nat → Nat → Bool) {k : Nat} (hk : k < 64) : ((lnkC E R).extract 0 (0 + 64)).toList[k]? = some (.int .u64 (rowW E k : Int)) := by
  rw [Array.getElem?_toList, Array.getElem?_extract, if_pos (by rw [lnkC_size]; omega), Nat.zero_add]
  exact lnkC_next E R hk
theorem lnkC_copy (E R : Nat → Nat → Bool) : setL (lnkC E R) 64 ((lnkC E R).extract 0 (0 + 64)).toList = lnkC E E := by
  have hl : ((lnkC E R).extract 0 (0 + 64)).toList.length = 64 := by simp [lnkC_size]
  apply Array.ext_getElem?
  intro k
  rw [setL_get _ _ _ _ (by rw [hl, lnkC_size]; omega), hl]
  by_cases h1 : k < 64
  · rw [if_neg (by omega), lnkC_next E R h1, lnkC_next E E h1]
  · by_cases h2 : k < 128
    · obtain ⟨d, rfl⟩ : ∃ d, k = 64 + d := ⟨k - 64, by omega⟩
      rw [if_pos (by omega), show 64 + d - 64 = d by omega, lnkC_at E R (by omega), lnkC_reach E E (by omega)]
    · rw [if_neg (by omega), Array.getElem?_eq_none (by rw [lnkC_size]; omega), Array.getElem?_eq_none (by rw [lnkC_size]; omega)]
theorem lnkC_one (E R : Nat → Nat → Bool) : ((lnkC E R).extract 0 (0 + 64)).toList.toArray.all (·.oneCell') = true := by
  apply all_oneCell_toArray
  intro v hv
  obtain ⟨k, hk, rfl⟩ := List.mem_iff_getElem.1 hv
  have hl : ((lnkC E R).extract 0 (0 + 64)).toList.length = 64 := by simp [lnkC_size]
  have h2 := lnkC_at E R (k := k) (by omega)
  rw [List.getElem?_eq_getElem hk] at h2
  rw [Option.some.inj h2]
  rfl

theorem relE_within {n : Nat} {l : List Edg} (hv : ∀ e ∈ l, okEd n e) : Within n (relE l) := by
  intro i j h
  obtain ⟨e, he, h⟩ := List.any_eq_true.1 h
  rw [Bool.and_eq_true, decide_eq_true_eq, decide_eq_true_eq] at h
  obtain ⟨o1, o2, o3, o4⟩ := hv e he
  omega

set_option maxRecDepth 100000 in
set_option maxHeartbeats 4000000 in
theorem of_code (n : Nat) (hn : n ≤ 64) (l : List Edg) (hl : l.length ≤ 1000000) (hv : ∀ e ∈ l, okEd n e) (A : Option Addr) (c : Nat) (w : World) (hA : Cells w A 2 l.length (edAt l)) :
    Calls Try.prog 57 #[.agg #[.int .i64 (n : Int), .slice A l.length c]] w fun e w' => ∃ g, e = .returned (.pointer (some ⟨g, 0, none⟩)) ∧ w.heap.size ≤ g ∧ Blk w' g 79 (lnkC (relE l) (rea n (relE l))) ∧ Below w.heap.size w w' := by
  have b0 := gr_alloc (Below.refl w.heap.size w) (.cells #[.int .i64 (n : Int), .slice A l.length c] 24)
  have k0 := Blk.new w 24 #[.int .i64 (n : Int), .slice A l.length c]
  have b1 := gr_alloc b0 (.cells (lnkC noR noR) 79)
  have k1 := Blk.new (w.alloc (.cells #[.int .i64 (n : Int), .slice A l.length c] 24)) 79 (lnkC noR noR)
  have k01 := k0.alloc (.cells (lnkC noR noR) 79)
  obtain ⟨ln, hln⟩ : ∃ ln, ln = l.length := ⟨_, rfl⟩
  have K := Lib.hid (And.intro b1 (And.intro k1 (And.intro k01 (And.intro hA hv))))
  have HN := Lib.hid hln
  clear b0 b1 k0 k1 k01 hA hv
  rw [← hln] at hl K ⊢
  clear hln
  go_enter Try.func57, Try.ntmps57
  go_wp2_with (fail)
  rw [zero_links]
  go_loopw [13] (fun iv wr => ∃ k : Nat, k ≤ ln ∧ iv = .int .i64 (k : Int) ∧ Below w.heap.size w wr ∧ Blk wr w.heap.size 24 #[.int .i64 (n : Int), .slice A ln c] ∧ Blk wr (w.heap.size + 1) 79 (lnkC (relE (l.take k)) noR)) (fun iv _ => ln - (intOf iv).toNat)
  case atStart => exact ⟨0, Nat.zero_le _, rfl, K.out.1, K.out.2.2.1, (by have h := K.out.2.1; rw [show (w.alloc (.cells #[.int .i64 (n : Int), .slice A ln c] 24)).heap.size = w.heap.size + 1 by simp] at h; exact h)⟩
  case round =>
    obtain ⟨k, hk, rfl, hbel, hg, hx⟩ := hrel
    by_cases hlt : k < ln
    · obtain ⟨e, hp⟩ : ∃ e, l[k]? = some e := ⟨_, List.getElem?_eq_getElem (by rw [← HN.out]; exact hlt)⟩
      have hA1 : Cells wr A 2 ln (edAt l) := by rw [HN.out]; rw [← HN.out]; exact K.out.2.2.2.1.below hbel
      rw [HN.out] at hA1
      obtain ⟨ab, ao, rfl, hab, c0, c1⟩ := cells_edg hA1 hp
      obtain ⟨o1, o2, o3, o4⟩ := K.out.2.2.2.2 e (List.mem_of_getElem? hp)
      obtain ⟨i, hi⟩ : ∃ i : Nat, e.f = (i : Int) := ⟨e.f.toNat, by omega⟩
      obtain ⟨j, hj⟩ : ∃ j : Nat, e.t = (j : Int) := ⟨e.t.toNat, by omega⟩
      have hi6 : i < 64 := by omega
      have hj6 : j < 64 := by omega
      have hi7 : (i : Int) < 64 := by omega
      have hj7 : (j : Int) < 64 := by omega
      rw [hi] at c0
      rw [hj] at c1
      have wj : IntKind.u64.wrap (j : Int) = (j : Int) := IntWalk.u64_in _ (by omega)
      have cx := hx.cell' (lnkC_next (relE (l.take k)) noR hi6)
      have xl := hx.lt
      have xf := hx.frozen i
      have B := Lib.hid (And.intro hbel (And.intro hg (And.intro hx (And.intro hp (And.intro hi hj)))))
      clear hbel hg hx hp hi hj o1 o2 o3 o4 hA1
      go_wp2_with (fail)
      go_region
      go_wp2_with (fail)
      go_roundw
      case rel =>
        have h2 : 2 ^ j < 18446744073709551616 := Nat.lt_of_lt_of_le (Nat.pow_lt_pow_right (by decide) hj6) (by decide)
        have hw : IntKind.u64.wrap (2 ^ j) = ((2 ^ j : Nat) : Int) := by
          rw [show (2 : Int) ^ j = ((2 ^ j : Nat) : Int) by simp]
          exact wrap_nat h2
        have ht : l.take (k + 1) = l.take k ++ [e] := by rw [List.take_add_one, B.out.2.2.2.1]; rfl
        have ho : bits .or .u64 (rowW (relE (l.take k)) i : Int) (IntKind.u64.wrap (2 ^ j)) = ((rowW (relE (l.take (k + 1))) i : Nat) : Int) := by
          rw [hw, u64_or_nat _ _ (rowW_lt _ _) h2, ht, relE_snoc _ e B.out.2.2.2.2.1 B.out.2.2.2.2.2, insE_row _ hj6]
        rw [ho]
        have hb := gr_alloc (gr_set B.out.1 (p := ⟨w.heap.size + 1, i, none⟩) (by simp) (.int .u64 ((rowW (relE (l.take (k + 1))) i : Nat) : Int))) (.cells #[.int .i64 (i : Int), .int .i64 (j : Int)] 57)
        refine ⟨k + 1, hlt, rfl, ⟨hb.os, hb.tape, hb.output, hb.size, hb.block⟩, ((B.out.2.1.far (by simp) _).alloc _).drew, ?_⟩
        have hs := ((B.out.2.2.1.set_ i (.int .u64 ((rowW (relE (l.take (k + 1))) i : Nat) : Int))).alloc (.cells #[.int .i64 (i : Int), .int .i64 (j : Int)] 57)).drew
        rw [lnkC_set_next hi6 (F := relE (l.take (k + 1))) rfl (fun a ha => by rw [ht, relE_snoc _ e B.out.2.2.2.2.1 B.out.2.2.2.2.2]; exact insE_other _ ha)] at hs
        exact hs
      case measure => simp [intOf]; omega
    · have ek : k = ln := by omega
      subst ek
      have ht : l.take k = l := List.take_of_length_le (by rw [← HN.out]; exact Nat.le_refl _)
      rw [ht] at hx
      have rN : wr.rangeAt (w.heap.size + 1) 0 ((lnkC (relE l) noR).extract 0 (0 + 64)).toList := World.rangeAt_of_block hx 0 64
      have thr : wr.there (w.heap.size + 1) 64 64 := by
        intro j hj
        refine ⟨?_, hx.frozen _⟩
        rw [hx.cell' (lnkC_reach (relE l) noR hj)]; rfl
      obtain ⟨cs, hcs⟩ : ∃ cs, cs = ((lnkC (relE l) noR).extract 0 (0 + 64)).toList := ⟨_, rfl⟩
      rw [← hcs] at rN
      have hcl : cs.length = 64 := by rw [hcs]; simp [lnkC_size]
      have hall : cs.toArray.all (·.oneCell') = true := by rw [hcs]; exact lnkC_one _ _
      have hsz : cs.toArray.size = 64 := by simpa using hcl
      have thr' : wr.there (w.heap.size + 1) 64 cs.toArray.size := by rw [hsz]; exact thr
      have hi1 : (Try.prog.info? 77).map (·.size) = some cs.length := by rw [hcl]; kernel_rfl
      have hi2 : (Try.prog.info? 77).map (·.size) = some cs.toArray.size := by rw [hsz]; kernel_rfl
      have hcp : setL (lnkC (relE l) noR) 64 cs = lnkC (relE l) (relE l) := by rw [hcs]; exact lnkC_copy _ _
      have bx := hx.setCells cs 64
      have bg := hg.farCells (b := w.heap.size + 1) (by omega) cs 64
      have bb := gr_setCells (b := w.heap.size + 1) cs 64 hbel (by omega)
      rw [hcp] at bx
      obtain ⟨wx, hwx⟩ : ∃ wx, wr.setCells (w.heap.size + 1) 64 cs = wx := ⟨_, rfl⟩
      rw [hwx] at bx bg bb
      have xl := hx.lt
      have gl := hg.lt
      have f0 := bg.cell' (i := 0) rfl
      have hn' : (n : Int) ≤ 64 := by omega
      have B := Lib.hid (And.intro bx (And.intro bg bb))
      clear hbel hg hx hlt hcs hcl hsz thr bx bg bb hcp
      go_wp2_with (first | refine wpList_load_mid rfl 77 _ rfl (w.heap.size + 1) 0 rfl cs _ rN Try.underlying77 rfl hi1 ?_ | (refine wpList_store_mid rfl 77 _ _ rfl (w.heap.size + 1) 64 cs.toArray rfl rfl thr' hi2 hall ?_; rw [show wr.setCells (w.heap.size + 1) 64 cs.toArray.toList = wx from hwx]; clear rN thr' hi1 hi2 hall hwx))
      go_loopw [42] (fun iv wr => ∃ m : Nat, m ≤ n ∧ iv = .int .i64 (m : Int) ∧ Below w.heap.size w wr ∧ Blk wr w.heap.size 24 #[.int .i64 (n : Int), .slice A k c] ∧ Blk wr (w.heap.size + 1) 79 (lnkC (relE l) (clo (relE l) m))) (fun iv _ => n - (intOf iv).toNat)
      case atStart => exact ⟨0, Nat.zero_le _, rfl, B.out.2.2, B.out.2.1, B.out.1⟩
      case round =>
        obtain ⟨m, hm, rfl, hbel, hg, hx⟩ := hrel
        by_cases hlt : m < n
        · have hlt' : (m : Int) < (n : Int) := by omega
          have f1 := hg.cell' (i := 0) rfl
          have gl := hg.lt
          have B := Lib.hid (And.intro hx (And.intro hg hbel))
          clear hbel hg hx
          go_wp2_with (fail)
          have hwi : Within n (clo (relE l) m) := clo_within (relE_within K.out.2.2.2.2) m
          have HW := Lib.hid hwi
          clear hwi
          go_loopw [47] (fun iv wr => ∃ i : Nat, i ≤ n ∧ iv = .int .i64 (i : Int) ∧ Below w.heap.size w wr ∧ Blk wr w.heap.size 24 #[.int .i64 (n : Int), .slice A k c] ∧ Blk wr (w.heap.size + 1) 79 (lnkC (relE l) (wstTo m i (clo (relE l) m)))) (fun iv _ => n - (intOf iv).toNat)
          case atStart => exact ⟨0, Nat.zero_le _, rfl, B.out.2.2, B.out.2.1, by rw [wstTo_zero]; exact B.out.1⟩
          case round =>
            obtain ⟨i, hi, rfl, hbel, hg, hx⟩ := hrel
            have f2 := hg.cell' (i := 0) rfl
            by_cases hli : i < n
            · have hli' : (i : Int) < (n : Int) := by omega
              have hi6 : i < 64 := by omega
              have hm6 : m < 64 := by omega
              have hi7 : (i : Int) < 64 := by omega
              have hm7 : (m : Int) < 64 := by omega
              have wm : IntKind.u64.wrap (m : Int) = (m : Int) := IntWalk.u64_in _ (by omega)
              obtain ⟨T, hT⟩ : ∃ T, T = clo (relE l) m := ⟨_, rfl⟩
              rw [← hT] at hx HW
              obtain ⟨X, hX⟩ : ∃ X, X = rowW (wstTo m i T) i := ⟨_, rfl⟩
              obtain ⟨Y, hY⟩ : ∃ Y, Y = rowW (wstTo m i T) m := ⟨_, rfl⟩
              have hXl : X < 18446744073709551616 := by rw [hX]; exact rowW_lt _ _
              have hYl : Y < 18446744073709551616 := by rw [hY]; exact rowW_lt _ _
              have hX0 : 0 ≤ (X : Int) := by omega
              have hX1 : (X : Int) < 18446744073709551616 := by omega
              have cx := hx.cell' (lnkC_reach (relE l) (wstTo m i T) hi6)
              have cy := hx.cell' (lnkC_reach (relE l) (wstTo m i T) hm6)
              rw [← hX] at cx
              rw [← hY] at cy
              have xl := hx.lt
              have xf := hx.frozen (64 + i)
              have hbt : (bits .and .u64 ((X : Int) / 2 ^ m) 1 == 1) = T i m := by
                rw [bit_test _ _ hXl, hX, rowW_bit _ _ _ hm6, wstTo_bit]
              have hst := wstTo_step m i T
              have B := Lib.hid (And.intro hbel (And.intro hg (And.intro hx (And.intro hX (And.intro hY (And.intro hst hT))))))
              have L := Lib.hid (And.intro hXl hYl)
              clear hbel hg hx hX hY hst hT hXl hYl
              cases hc : T i m with
              | true =>
                rw [hc] at hbt
                have hbt' : bits .and .u64 ((X : Int) / 2 ^ m) 1 = 1 := by simpa using hbt
                have C := Lib.hid hc
                clear hc hbt
                go_wp2_with (fail)
                go_region
                go_wp2_with (fail)
                go_roundw
                case rel =>
                  have ho : bits .or .u64 (X : Int) (Y : Int) = ((rowW (wstTo m (i + 1) T) i : Nat) : Int) := by
                    rw [u64_or_nat _ _ L.out.1 L.out.2, B.out.2.2.2.2.2.1, C.out, if_pos rfl, orRow_row, B.out.2.2.2.1, B.out.2.2.2.2.1]
                  rw [ho, ← B.out.2.2.2.2.2.2]
                  have hb := gr_set B.out.1 (p := ⟨w.heap.size + 1, 64 + i, none⟩) (by simp) (.int .u64 ((rowW (wstTo m (i + 1) T) i : Nat) : Int))
                  have hs := (B.out.2.2.1.set_ (64 + i) (.int .u64 ((rowW (wstTo m (i + 1) T) i : Nat) : Int))).drew
                  rw [lnkC_set_reach hi6 (Q := wstTo m (i + 1) T) rfl (fun a ha => by rw [B.out.2.2.2.2.2.1, C.out, if_pos rfl]; exact orRow_other _ ha)] at hs
                  exact ⟨i + 1, hli, rfl, ⟨hb.os, hb.tape, hb.output, hb.size, hb.block⟩, (B.out.2.1.far (by simp) _).drew, hs⟩
                case measure => simp [intOf]; omega
              | false =>
                rw [hc] at hbt
                have C := Lib.hid hc
                clear hc
                go_wp2_with (fail)
                go_roundw
                case rel => exact ⟨i + 1, hli, rfl, B.out.1, B.out.2.1, by rw [← B.out.2.2.2.2.2.2, B.out.2.2.2.2.2.1, C.out, if_neg (by decide)]; exact B.out.2.2.1⟩
                case measure => simp [intOf]; omega
            · have ei : i = n := by omega
              subst ei
              rw [wstTo_all HW.out] at hx
              have B := Lib.hid (And.intro hbel (And.intro hg hx))
              clear hbel hg hx hli
              go_wp2_with (fail)
              go_roundw
              case rel => exact ⟨m + 1, hlt, rfl, B.out.1, B.out.2.1, B.out.2.2⟩
              case measure => simp [intOf]; omega
        · have em : m = n := by omega
          subst em
          have B := Lib.hid (And.intro hbel hx)
          clear hbel hg hx hlt
          go_wp2_with (fail)
          go_ret
          exact ⟨_, rfl, by omega, B.out.2, B.out.1⟩
end Go.Proofs.Ytjgkiiohbceocaa
