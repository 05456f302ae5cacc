/-
  QueryKnown, walked: it returns true; condition: a variable of the library is an int.
-/
import Derived.Test.YtfbkbnojbbpopaaDoorQyW
import Derived.Laws.MakeOwn
namespace Go.Proofs.YtfbkbnojbbpopaaDoor
open Go.RowKit
set_option linter.unusedVariables false
set_option linter.unusedSimpArgs false

/-! The names of two errors. -/
def padL (b : List UInt8) (j : Nat) : List UInt8 := b ++ List.replicate j 32
theorem padL_succ (b : List UInt8) (j : Nat) : padL b (j + 1) = padL b j ++ [32] := by unfold padL; rw [List.replicate_succ', List.append_assoc]
theorem pad_ext (b : List UInt8) (j : Nat) : (mkB (padL b (j + 1))).extract 0 (b.length + j) = mkB (padL b j) := by
  apply str_ext
  rw [ext_take, mkB_data, mkB_data, padL_succ, List.take_left' (by unfold padL; rw [List.length_append, List.length_replicate])]
theorem mkB_get (l : List UInt8) (i : Nat) (c : UInt8) (hc : l[i]? = some c) (h : i < (mkB l).size) : (mkB l)[i]'h = c := by
  have h2 : i < l.length := by rw [← mkB_size]; exact h
  have e : (mkB l)[i]'h = l[i]'h2 := by unfold mkB; rfl
  rw [e]
  exact (List.getElem?_eq_some_iff.1 hc).2
theorem pad_at (b : List UInt8) (j : Nat) (h' : b.length + j < (mkB (padL b (j + 1))).size) : (mkB (padL b (j + 1)))[b.length + j]'h' = 32 := by
  refine mkB_get _ _ _ ?_ h'
  unfold padL
  rw [List.getElem?_append_right (by omega), Nat.add_sub_cancel_left, List.getElem?_replicate, if_pos (by omega)]
theorem pad_end (b : List UInt8) (k : Nat) (c : UInt8) (hb : b[k]? = some c) (h' : k < (mkB (padL b 0)).size) : (mkB (padL b 0))[k]'h' = c := by
  refine mkB_get _ _ _ ?_ h'
  unfold padL
  rw [List.replicate_zero, List.append_nil]
  exact hb

set_option maxRecDepth 100000 in
set_option maxHeartbeats 2000000 in
theorem lerr4 (w : World) : Calls Tryd.prog 36 #[.int .i64 4] w fun e W' => e = .returned (.string ⟨#[108, 111, 110, 103]⟩) ∧ W' = w := by
  have hx : ∀ s : ByteArray, s = (⟨#[111, 107, 32, 32, 32, 32, 32, 32, 32, 32, 110, 105, 108, 32, 32, 32, 32, 32, 32, 32, 114, 97, 110, 103, 101, 32, 32, 32, 32, 32, 102, 111, 114, 109, 32, 32, 32, 32, 32, 32, 108, 111, 110, 103, 32, 32, 32, 32, 32, 32]⟩ : ByteArray) → True := fun _ _ => trivial
  go_enter Tryd.func36, Tryd.ntmps36
  go_wp2_with (fail)
  go_loopw [3] (fun v wr => (∃ j : Nat, j ≤ 6 ∧ v = .string (mkB (padL [108, 111, 110, 103] j))) ∧ wr = w) (fun v _ => match v with | .string s => s.size | _ => 0)
  case atStart => exact ⟨⟨6, Nat.le_refl _, by congr 1⟩, rfl⟩
  case round =>
    obtain ⟨⟨j, hj, rfl⟩, rfl⟩ := hrel
    have hsz : (mkB (padL [108, 111, 110, 103] j)).size = 4 + j := by rw [mkB_size]; unfold padL; rw [List.length_append, List.length_replicate]; rfl
    cases j with
    | zero =>
      have hl := fun h' => pad_end [108, 111, 110, 103] 3 103 rfl h'
      generalize hg : mkB (padL [108, 111, 110, 103] 0) = s at *
      have HG := Lib.hid hg
      clear hg
      go_wp2_with (fail)
      go_ret
      exact ⟨by rw [← HG.out]; rfl, rfl⟩
    | succ j =>
      have hl := fun h' => pad_at [108, 111, 110, 103] j h'
      have he := pad_ext [108, 111, 110, 103] j
      rw [show ([108, 111, 110, 103] : List UInt8).length = 4 from rfl] at he
      have hl2 : ∀ h', (mkB (padL [108, 111, 110, 103] (j + 1)))[4 + j]'h' = 32 := hl
      clear hl
      generalize hg : mkB (padL [108, 111, 110, 103] (j + 1)) = s at *
      have HG := Lib.hid hg
      clear hg
      have w1 : ((4 : Int) + ((j : Int) + 1) - 1).toNat = 4 + j := by omega
      have w2 : (0 : Int) ≤ (4 : Int) + ((j : Int) + 1) - 1 := by omega
      have w3 : (4 : Int) + ((j : Int) + 1) - 1 < (4 : Int) + ((j : Int) + 1) := by omega
      go_wp2_with (fail)
      have hm1 : (mkB (padL [108, 111, 110, 103] j)).size = 4 + j := by rw [mkB_size]; unfold padL; rw [List.length_append, List.length_replicate]; rfl
      refine ⟨⟨⟨j, by omega, rfl⟩, trivial⟩, ?_⟩
      show (mkB (padL [108, 111, 110, 103] j)).size < s.size
      omega

set_option maxRecDepth 100000 in
set_option maxHeartbeats 2000000 in
theorem lerr3 (w : World) : Calls Tryd.prog 36 #[.int .i64 3] w fun e W' => e = .returned (.string ⟨#[102, 111, 114, 109]⟩) ∧ W' = w := by
  have hx : ∀ s : ByteArray, s = (⟨#[111, 107, 32, 32, 32, 32, 32, 32, 32, 32, 110, 105, 108, 32, 32, 32, 32, 32, 32, 32, 114, 97, 110, 103, 101, 32, 32, 32, 32, 32, 102, 111, 114, 109, 32, 32, 32, 32, 32, 32, 108, 111, 110, 103, 32, 32, 32, 32, 32, 32]⟩ : ByteArray) → True := fun _ _ => trivial
  go_enter Tryd.func36, Tryd.ntmps36
  go_wp2_with (fail)
  go_loopw [3] (fun v wr => (∃ j : Nat, j ≤ 6 ∧ v = .string (mkB (padL [102, 111, 114, 109] j))) ∧ wr = w) (fun v _ => match v with | .string s => s.size | _ => 0)
  case atStart => exact ⟨⟨6, Nat.le_refl _, by congr 1⟩, rfl⟩
  case round =>
    obtain ⟨⟨j, hj, rfl⟩, rfl⟩ := hrel
    have hsz : (mkB (padL [102, 111, 114, 109] j)).size = 4 + j := by rw [mkB_size]; unfold padL; rw [List.length_append, List.length_replicate]; rfl
    cases j with
    | zero =>
      have hl := fun h' => pad_end [102, 111, 114, 109] 3 109 rfl h'
      generalize hg : mkB (padL [102, 111, 114, 109] 0) = s at *
      have HG := Lib.hid hg
      clear hg
      go_wp2_with (fail)
      go_ret
      exact ⟨by rw [← HG.out]; rfl, rfl⟩
    | succ j =>
      have hl := fun h' => pad_at [102, 111, 114, 109] j h'
      have he := pad_ext [102, 111, 114, 109] j
      rw [show ([102, 111, 114, 109] : List UInt8).length = 4 from rfl] at he
      have hl2 : ∀ h', (mkB (padL [102, 111, 114, 109] (j + 1)))[4 + j]'h' = 32 := hl
      clear hl
      generalize hg : mkB (padL [102, 111, 114, 109] (j + 1)) = s at *
      have HG := Lib.hid hg
      clear hg
      have w1 : ((4 : Int) + ((j : Int) + 1) - 1).toNat = 4 + j := by omega
      have w2 : (0 : Int) ≤ (4 : Int) + ((j : Int) + 1) - 1 := by omega
      have w3 : (4 : Int) + ((j : Int) + 1) - 1 < (4 : Int) + ((j : Int) + 1) := by omega
      go_wp2_with (fail)
      have hm1 : (mkB (padL [102, 111, 114, 109] j)).size = 4 + j := by rw [mkB_size]; unfold padL; rw [List.length_append, List.length_replicate]; rfl
      refine ⟨⟨⟨j, by omega, rfl⟩, trivial⟩, ?_⟩
      show (mkB (padL [102, 111, 114, 109] j)).size < s.size
      omega

/-! text and long. -/
set_option maxRecDepth 100000 in
set_option maxHeartbeats 1000000 in
theorem ltext0 (s : ByteArray) (w : World) : Calls Tryd.prog 34 #[.string s, .int .i64 0] w fun e W' => e = .returned (.string s) ∧ W' = w := by
  go_enter Tryd.func34, Tryd.ntmps34
  go_wp2_with (fail)
  go_ret
  exact ⟨rfl, rfl⟩
set_option maxRecDepth 100000 in
set_option maxHeartbeats 1000000 in
theorem ltext4 (s : ByteArray) (w : World) : Calls Tryd.prog 34 #[.string s, .int .i64 4] w fun e W' => e = .returned (.string ⟨#[108, 111, 110, 103]⟩) ∧ W' = w := by
  go_enter Tryd.func34, Tryd.ntmps34
  go_wp2_with (fail)
  refine (lerr4 _).mono ?_
  rintro e W1 ⟨rfl, rfl⟩
  go_wp2_with (fail)
  go_ret
  exact ⟨rfl, rfl⟩
set_option maxRecDepth 100000 in
set_option maxHeartbeats 1000000 in
theorem ltext3 (s : ByteArray) (w : World) : Calls Tryd.prog 34 #[.string s, .int .i64 3] w fun e W' => e = .returned (.string ⟨#[102, 111, 114, 109]⟩) ∧ W' = w := by
  go_enter Tryd.func34, Tryd.ntmps34
  go_wp2_with (fail)
  refine (lerr3 _).mono ?_
  rintro e W1 ⟨rfl, rfl⟩
  go_wp2_with (fail)
  go_ret
  exact ⟨rfl, rfl⟩

def longB (n : Nat) : ByteArray := mkB (List.replicate n 97)
set_option maxRecDepth 100000 in
set_option maxHeartbeats 2000000 in
theorem llong (n : Nat) (hn : n ≤ 1000) (w : World) : Calls Tryd.prog 35 #[.int .i64 (n : Int)] w fun e W' => e = .returned (.string (longB n)) ∧ Below w.heap.size w W' := by
  obtain ⟨i0, hi, hz0, hz1, hz2⟩ := info_parts infoByte
  go_enter Tryd.func35, Tryd.ntmps35
  go_wp2_with (first | (at_make; go_loud (refine wpList_make_full _ rfl _ _ 63 rfl w.heap.size 5 i0 (.int .u8 0) 1 Tryd.underlying63 hi hz0 hz1 .i64 .i64 _ _ n rfl rfl rfl rfl ?c1 ?c2 ?c3 ?_)))
  case c1 => rw [hz2]; omega
  case c2 => unfold maxLen; omega
  case c3 => exact Nat.le_refl _
  intro w1 hown hgrow
  have hb1 : Below w.heap.size w w1 := (Below.refl w.heap.size w).grown hgrow (Nat.le_refl _) (by intro k hk; cases hk)
  rcases hown.2 with ⟨e, _⟩ | ⟨g, cap, cur, e, _, hg, _, _, hcs, _⟩
  · cases e
  · injection e with e1 e2 e3
    cases e1
    subst e3
    have hcs' : cur.size = n := by omega
    have K := Lib.hid (And.intro (show Blk w1 w.heap.size 5 cur from hg) (And.intro hcs' hb1))
    clear hown hgrow hb1 hg hcs hcs' e2
    go_wp2_with (fail)
    go_loopw [4] (fun iv wr => ∃ k : Nat, k ≤ n ∧ iv = .int .i64 (k : Int) ∧ (∃ cs : Array Value, Blk wr w.heap.size 5 cs ∧ cs.size = n ∧ ∀ j, j < k → cs[j]? = some (.int .u8 97)) ∧ Below w.heap.size w wr) (fun iv _ => n - (intOf iv).toNat)
    case atStart => exact ⟨0, Nat.zero_le _, rfl, ⟨cur, K.out.1, K.out.2.1, fun j h => absurd h (by omega)⟩, K.out.2.2⟩
    case round =>
      obtain ⟨k, hk, rfl, ⟨cs, hblk, hsz, hall⟩, hbel⟩ := hrel
      by_cases hlt : k < n
      · obtain ⟨u, hu⟩ : ∃ u, cs[k]? = some u := ⟨_, Array.getElem?_eq_getElem (by omega)⟩
        have c0 := hblk.cell' hu
        have f0 := hblk.frozen k
        have A := Lib.hid (And.intro hblk (And.intro hsz (And.intro hall hbel)))
        clear hblk hsz hall hbel
        go_wp2_with (fail)
        go_roundw
        case rel =>
          obtain ⟨hblk, hsz, hall, hbel⟩ := A.out
          refine ⟨k + 1, by omega, rfl, ⟨cs.setIfInBounds k (.int .u8 97), hblk.set_ k _, by simpa using hsz, fun j hj => ?_⟩, gr_set hbel (Nat.le_refl _) _⟩
          rw [Array.getElem?_setIfInBounds]
          by_cases hjk : k = j
          · rw [if_pos hjk, if_pos (by omega)]
          · rw [if_neg hjk]; exact hall j (by omega)
        case measure => simp [intOf]; omega
      · have hk' : k = n := by omega
        subst hk'
        have hcl : cs.toList = Lib.byteCells (List.replicate k 97) := by
          apply List.ext_getElem?
          intro j
          rw [Array.getElem?_toList]
          by_cases hj : j < k
          · rw [hall j hj]
            unfold Lib.byteCells
            rw [List.getElem?_map, List.getElem?_replicate, if_pos hj]; rfl
          · rw [Array.getElem?_eq_none (by omega), List.getElem?_eq_none (by rw [Lib.byteCells_length, List.length_replicate]; omega)]
        have hown : wr.ownsRow w.heap.size 5 1 (.slice (some ⟨w.heap.size, 0, none⟩) k k) k (Lib.byteCells (List.replicate k 97)) := by
          refine ⟨by rw [Lib.byteCells_length, List.length_replicate]; omega, .inr ⟨w.heap.size, k, cs, rfl, Nat.le_refl _, hblk, Nat.le_refl _, by unfold maxLen; omega, by omega, ?_⟩⟩
          rw [← hcl, List.take_of_length_le (by rw [Array.length_toList]; omega)]
        have hown2 : wr.ownsRow w.heap.size 5 1 (.slice (some ⟨w.heap.size, 0, none⟩) k k) (List.replicate k (97 : UInt8)).length (Lib.byteCells (List.replicate k 97)) := by rw [List.length_replicate]; exact hown
        have hcv := run_own_string (P := Tryd.prog) (w := wr) (src := 63) (dst := 9) Tryd.underlying63 Tryd.underlying5 Tryd.underlying9 rfl hown2
        have A := Lib.hid hbel
        clear hblk hsz hall hbel hcl hown hown2
        go_wp2_with (fail)
        go_ret
        exact ⟨rfl, A.out⟩
theorem kd1 : decE [97, 37, 51, 100, 61, 37, 50, 66] = 0 ∧ decL [97, 37, 51, 100, 61, 37, 50, 66] = [⟨⟨#[97, 61]⟩, ⟨#[43]⟩, false⟩] := by decide +kernel
theorem kd2 : decE [97, 37, 51] = 3 ∧ decL [97, 37, 51] = [] := by decide +kernel
theorem kc1 : chkL [97, 32, 98] = 3 ∧ chkL [97, 35] = 3 := by decide +kernel
theorem kg1 : getV [97, 61, 49, 38, 98, 61, 50, 38, 97, 61, 51] ⟨#[97]⟩ = ⟨#[49]⟩ ∧ getE [97, 61, 49, 38, 98, 61, 50, 38, 97, 61, 51] ⟨#[97]⟩ = 0 := by decide +kernel
theorem kg2 : getV [97] ⟨#[97]⟩ = ⟨#[]⟩ ∧ getE [97] ⟨#[97]⟩ = 0 := by decide +kernel
theorem kg3 : getV [97] ⟨#[98]⟩ = ⟨#[]⟩ ∧ getE [97] ⟨#[98]⟩ = 6 := by decide +kernel
theorem ka1 : appS [120, 61, 49] [121, 61, 50] = ⟨#[121, 61, 50, 38, 120, 61, 49]⟩ ∧ appE [120, 61, 49] [121, 61, 50] = 0 := by decide +kernel
theorem ka2 : appS [120, 61, 49] [] = ⟨#[120, 61, 49]⟩ ∧ appE [120, 61, 49] [] = 0 := by decide +kernel
theorem ka3 : appE (List.replicate 100 97) (List.replicate 28 97) = 4 := by decide +kernel
theorem kn1 : canS [38, 97, 61, 37, 55, 101, 38, 38, 98] = ⟨#[97, 61, 126, 38, 98]⟩ ∧ canE [38, 97, 61, 37, 55, 101, 38, 38, 98] = 0 := by decide +kernel
theorem kn2 : canS [97, 61, 43] = ⟨#[97, 61, 37, 50, 66]⟩ ∧ canE [97, 61, 43] = 0 := by decide +kernel
theorem kn3 : canE [37, 122, 122] = 3 := by decide +kernel
theorem kl1 : litE [97, 61, 98, 38, 99, 59, 100, 43, 37, 52, 49] = 0 ∧ litE [37, 52] = 3 ∧ litE [97, 63, 98] = 3 ∧ litE [97, 34, 98] = 3 := by decide +kernel

set_option maxRecDepth 100000 in
set_option maxHeartbeats 8000000 in
theorem law_known (w : World) (hm : MaxOk w) :
    Calls Tryd.prog 9 #[] w fun e W' => e = .returned (.bool true) ∧ Below w.heap.size w W' := by
  have HM := Lib.hid hm
  have K := Lib.hid (Below.refl w.heap.size w)
  clear hm
  go_enter Tryd.func9, Tryd.ntmps9
  go_wp2_with (fail)
  refine (qdecoded ⟨#[97, 37, 51, 100, 61, 37, 50, 66]⟩ (by decide) _ (HM.out.below K.out (Nat.le_refl _))).mono ?_
  rintro e V1 ⟨v, rfl, hown, h1⟩
  rw [kd1.1]
  rw [kd1.2] at hown
  obtain ⟨A, c, rfl, hcl, _⟩ := own_cellsP hown
  have C1 := Lib.hid hcl
  clear hown hcl
  rw [show ([⟨⟨#[97, 61]⟩, ⟨#[43]⟩, false⟩] : List Pr).length = 1 from rfl]
  have K' := Lib.hid (gr_call K.out h1)
  clear h1 K
  have K := K'
  clear K'
  go_wp2_with (fail)
  refine (qdecoded ⟨#[97, 37, 51]⟩ (by decide) _ (HM.out.below K.out (Nat.le_refl _))).mono ?_
  rintro e V2 ⟨v, rfl, hown, h1⟩
  rw [kd2.1]
  have C2 := Lib.hid (C1.out.below h1)
  clear hown C1
  have K' := Lib.hid (gr_call K.out h1)
  clear h1 K
  have K := K'
  clear K'
  go_wp2_with (fail)
  have hx1 := C2.out.below (gr_alloc (Below.refl V2.heap.size V2) (.cells #[.string ⟨#[97, 61]⟩, .string ⟨#[43]⟩, .bool false] 44))
  have hx2 := cells_list (l := [⟨⟨#[97, 61]⟩, ⟨#[43]⟩, false⟩]) (Blk.new V2 44 #[.string ⟨#[97, 61]⟩, .string ⟨#[43]⟩, .bool false]) rfl
  have K2 := Lib.hid (gr_alloc K.out (.cells #[.string ⟨#[97, 61]⟩, .string ⟨#[43]⟩, .bool false] 44))
  refine (lsame [⟨⟨#[97, 61]⟩, ⟨#[43]⟩, false⟩] (by decide) A _ c 1 _ hx1 hx2).mono ?_
  rintro e V3 ⟨rfl, h1⟩
  have K' := Lib.hid (gr_call K2.out h1)
  clear h1 K K2 hx1 hx2 C2
  have K := K'
  clear K'
  go_wp2_with (fail)
  refine (qcheck ⟨#[97, 32, 98]⟩ _ (by decide)).mono ?_
  rintro e V4 ⟨rfl, h1⟩
  rw [kc1.1]
  have K' := Lib.hid (gr_call K.out h1)
  clear h1 K
  have K := K'
  clear K'
  go_wp2_with (fail)
  refine (qcheck ⟨#[97, 35]⟩ _ (by decide)).mono ?_
  rintro e V5 ⟨rfl, h1⟩
  rw [kc1.2]
  have K' := Lib.hid (gr_call K.out h1)
  clear h1 K
  have K := K'
  clear K'
  go_wp2_with (fail)
  refine (qget ⟨#[97, 61, 49, 38, 98, 61, 50, 38, 97, 61, 51]⟩ ⟨#[97]⟩ (by decide) _ (HM.out.below K.out (Nat.le_refl _))).mono ?_
  rintro e V6 ⟨rfl, h1⟩
  rw [kg1.1]
  rw [kg1.2]
  have K' := Lib.hid (gr_call K.out h1)
  clear h1 K
  have K := K'
  clear K'
  go_wp2_with (fail)
  refine (qget ⟨#[97]⟩ ⟨#[97]⟩ (by decide) _ (HM.out.below K.out (Nat.le_refl _))).mono ?_
  rintro e V7 ⟨rfl, h1⟩
  rw [kg2.1]
  rw [kg2.2]
  have K' := Lib.hid (gr_call K.out h1)
  clear h1 K
  have K := K'
  clear K'
  go_wp2_with (fail)
  refine (qget ⟨#[97]⟩ ⟨#[98]⟩ (by decide) _ (HM.out.below K.out (Nat.le_refl _))).mono ?_
  rintro e V8 ⟨rfl, h1⟩
  rw [kg3.1]
  rw [kg3.2]
  have K' := Lib.hid (gr_call K.out h1)
  clear h1 K
  have K := K'
  clear K'
  go_wp2_with (fail)
  refine (qappend ⟨#[120, 61, 49]⟩ ⟨#[121, 61, 50]⟩ (by decide) (by decide) _).mono ?_
  rintro e V9 ⟨rfl, h1⟩
  rw [ka1.1]
  rw [ka1.2]
  have K' := Lib.hid (gr_call K.out h1)
  clear h1 K
  have K := K'
  clear K'
  go_wp2_with (fail)
  refine (ltext0 _ _).mono ?_
  rintro e V10 ⟨rfl, rfl⟩
  go_wp2_with (fail)
  refine (qappend ⟨#[120, 61, 49]⟩ ⟨#[]⟩ (by decide) (by decide) _).mono ?_
  rintro e V11 ⟨rfl, h1⟩
  rw [ka2.1]
  rw [ka2.2]
  have K' := Lib.hid (gr_call K.out h1)
  clear h1 K
  have K := K'
  clear K'
  go_wp2_with (fail)
  refine (ltext0 _ _).mono ?_
  rintro e V12 ⟨rfl, rfl⟩
  go_wp2_with (fail)
  refine (llong 100 (by decide) _).mono ?_
  rintro e V13 ⟨rfl, h1⟩
  have K' := Lib.hid (gr_call K.out h1)
  clear h1 K
  have K := K'
  clear K'
  go_wp2_with (fail)
  refine (llong 28 (by decide) _).mono ?_
  rintro e V14 ⟨rfl, h1⟩
  have K' := Lib.hid (gr_call K.out h1)
  clear h1 K
  have K := K'
  clear K'
  go_wp2_with (fail)
  refine (qappend (longB 100) (longB 28) (by unfold longB; rw [mkB_size, List.length_replicate]; decide) (by unfold longB; rw [mkB_size, List.length_replicate]; decide) _).mono ?_
  rintro e V15 ⟨rfl, h1⟩
  rw [show appE (longB 100).data.toList (longB 28).data.toList = 4 by unfold longB; rw [mkB_data, mkB_data]; exact ka3]
  have K' := Lib.hid (gr_call K.out h1)
  clear h1 K
  have K := K'
  clear K'
  go_wp2_with (fail)
  refine (ltext4 _ _).mono ?_
  rintro e V16 ⟨rfl, rfl⟩
  go_wp2_with (fail)
  refine (lerr4 _).mono ?_
  rintro e V17 ⟨rfl, rfl⟩
  go_wp2_with (fail)
  refine (qcanonical ⟨#[38, 97, 61, 37, 55, 101, 38, 38, 98]⟩ (by decide) _ (HM.out.below K.out (Nat.le_refl _))).mono ?_
  rintro e V18 ⟨rfl, h1⟩
  rw [kn1.1]
  rw [kn1.2]
  have K' := Lib.hid (gr_call K.out h1)
  clear h1 K
  have K := K'
  clear K'
  go_wp2_with (fail)
  refine (ltext0 _ _).mono ?_
  rintro e V19 ⟨rfl, rfl⟩
  go_wp2_with (fail)
  refine (qcanonical ⟨#[97, 61, 43]⟩ (by decide) _ (HM.out.below K.out (Nat.le_refl _))).mono ?_
  rintro e V20 ⟨rfl, h1⟩
  rw [kn2.1]
  rw [kn2.2]
  have K' := Lib.hid (gr_call K.out h1)
  clear h1 K
  have K := K'
  clear K'
  go_wp2_with (fail)
  refine (ltext0 _ _).mono ?_
  rintro e V21 ⟨rfl, rfl⟩
  go_wp2_with (fail)
  refine (qcanonical ⟨#[37, 122, 122]⟩ (by decide) _ (HM.out.below K.out (Nat.le_refl _))).mono ?_
  rintro e V22 ⟨rfl, h1⟩
  rw [kn3]
  have K' := Lib.hid (gr_call K.out h1)
  clear h1 K
  have K := K'
  clear K'
  go_wp2_with (fail)
  refine (ltext3 _ _).mono ?_
  rintro e V23 ⟨rfl, rfl⟩
  go_wp2_with (fail)
  refine (lerr3 _).mono ?_
  rintro e V24 ⟨rfl, rfl⟩
  go_wp2_with (fail)
  refine (qliteral ⟨#[97, 61, 98, 38, 99, 59, 100, 43, 37, 52, 49]⟩ _ (by decide)).mono ?_
  rintro e V25 ⟨rfl, h1⟩
  rw [kl1.1]
  have K' := Lib.hid (gr_call K.out h1)
  clear h1 K
  have K := K'
  clear K'
  go_wp2_with (fail)
  refine (qliteral ⟨#[37, 52]⟩ _ (by decide)).mono ?_
  rintro e V26 ⟨rfl, h1⟩
  rw [kl1.2.1]
  have K' := Lib.hid (gr_call K.out h1)
  clear h1 K
  have K := K'
  clear K'
  go_wp2_with (fail)
  refine (qliteral ⟨#[97, 63, 98]⟩ _ (by decide)).mono ?_
  rintro e V27 ⟨rfl, h1⟩
  rw [kl1.2.2.1]
  have K' := Lib.hid (gr_call K.out h1)
  clear h1 K
  have K := K'
  clear K'
  go_wp2_with (fail)
  refine (qliteral ⟨#[97, 34, 98]⟩ _ (by decide)).mono ?_
  rintro e V28 ⟨rfl, h1⟩
  rw [kl1.2.2.2]
  have K' := Lib.hid (gr_call K.out h1)
  clear h1 K
  have K := K'
  clear K'
  go_wp2_with (fail)
  refine (lawake _ (HM.out.below K.out (Nat.le_refl _))).mono ?_
  rintro e V29 ⟨rfl, h1⟩
  have K' := Lib.hid (gr_call K.out h1)
  clear h1 K
  have K := K'
  clear K'
  go_wp2_with (fail)
  go_ret
  exact ⟨rfl, K.out⟩
end Go.Proofs.YtfbkbnojbbpopaaDoor
