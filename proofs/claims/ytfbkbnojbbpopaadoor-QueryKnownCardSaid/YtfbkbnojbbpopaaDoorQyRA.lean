/-
  The reference of queries, first part: which bytes stay, Encode, Check; no condition but lengths.
-/
import Derived.Test.YtfbkbnojbbpopaaDoorQyD
import Derived.Laws.BitsAllLaws
import Derived.RegionTactic
import Derived.StillTailTactics
import Derived.Deep.DeepCutAuto
import Derived.Outline
namespace Go.Proofs.YtfbkbnojbbpopaaDoor
open Go.RowKit
set_option linter.unusedVariables false
set_option linter.unusedSimpArgs false

set_option maxRecDepth 100000 in
set_option maxHeartbeats 1000000 in
theorem rwith (p : Nat → Bool) (b : Nat) (hb : b < 256) (w : World) :
    Calls Tryd.prog 57 #[Value.agg #[.int .u64 (setW p 0 : Int), .int .u64 (setW p 1 : Int), .int .u64 (setW p 2 : Int), .int .u64 (setW p 3 : Int)], .int .u8 (b : Int)] w fun e w' => e = .returned (Value.agg #[.int .u64 (setW (insP p b) 0 : Int), .int .u64 (setW (insP p b) 1 : Int), .int .u64 (setW (insP p b) 2 : Int), .int .u64 (setW (insP p b) 3 : Int)]) ∧ Below w.heap.size w w' := by
  have hc : (b : Int) < 256 := by omega
  have hc0 : 0 ≤ (b : Int) := by omega
  have hg := setC_get p (b / 64) (by omega)
  unfold setC at hg
  have hs := ins_list p b hb
  have HS := Lib.hid hs
  clear hs
  go_enter Tryd.func57, Tryd.ntmps57
  go_upto_region 2 with fail
  rw [HS.out]
  go_wp2
  refine bodyPost_ret (v := Value.agg #[.int .u64 (setW (insP p b) 0 : Int), .int .u64 (setW (insP p b) 1 : Int), .int .u64 (setW (insP p b) 2 : Int), .int .u64 (setW (insP p b) 3 : Int)]) (by simp [results, Tryd.results57, go_sem]) rfl ⟨rfl, ?_⟩
  exact (((Below.refl _ _).alloc (Nat.le_refl _) _).alloc (by simp) _)

set_option maxRecDepth 100000 in
set_option maxHeartbeats 1000000 in
theorem rof (A : Option Addr) (n cap : Nat) (Z : Nat → Nat) (hZ : ∀ i, Z i < 256) (hn : n ≤ 140737488355328) (w : World) (hA : Cells w A 1 n (byteAt Z)) :
    Calls Tryd.prog 41 #[.slice A n cap] w fun e w' => e = .returned (Value.agg #[.int .u64 (setW (ofP Z n) 0 : Int), .int .u64 (setW (ofP Z n) 1 : Int), .int .u64 (setW (ofP Z n) 2 : Int), .int .u64 (setW (ofP Z n) 3 : Int)]) ∧ Below w.heap.size w w' := by
  have hz := Lib.hid hZ
  have HA := Lib.hid hA
  clear hZ hA
  go_enter Tryd.func41, Tryd.ntmps41
  go_wp2_with (fail)
  go_loopw [4] (fun i wr => ∃ k : Nat, k ≤ n ∧ i = .int .i64 (k : Int) ∧ SetAt w (ofP Z k) wr) (fun i _ => n - (intOf i).toNat)
  case atStart => exact ⟨0, Nat.zero_le _, rfl, SetAt.start w⟩
  case round =>
    obtain ⟨k, hk, rfl, hat⟩ := hrel
    by_cases hlt : k < n
    · obtain ⟨ab, ao, rfl, had, hcl⟩ := (HA.out.below hat.2.2) (by omega)
      have hzk := hz.out k
      have hcell : wr.cell? ⟨ab, ao + k, none⟩ = some (.int .u8 (Z k : Int)) := by simpa [byteAt] using hcl k 0 hlt (by decide)
      clear hcl
      have a0 := hat.1.cell' (i := 0) rfl
      have a1 := hat.1.cell' (i := 1) rfl
      have a2 := hat.1.cell' (i := 2) rfl
      have a3 := hat.1.cell' (i := 3) rfl
      have HAT := Lib.hid hat
      clear hat
      go_wp2_with (fail)
      go_still_tail 5, (by kernel_rfl)
      change wpList _ _ _ _ _ wr.drew
      go_wp2_with (fail)
      refine (rwith (ofP Z k) (Z k) hzk _).mono ?_
      rintro e W1 ⟨rfl, h1⟩
      have hw1 := (HAT.out.drewN 1).below h1
      have c0 := hw1.1.cell' (i := 0) rfl
      have c1 := hw1.1.cell' (i := 1) rfl
      have c2 := hw1.1.cell' (i := 2) rfl
      have c3 := hw1.1.cell' (i := 3) rfl
      have g0 := hw1.1.frozen 0
      have g1 := hw1.1.frozen 1
      have g2 := hw1.1.frozen 2
      have g3 := hw1.1.frozen 3
      have H1 := Lib.hid hw1
      clear hw1 h1 a0 a1 a2 a3 hcell had
      go_wp2
      exact ⟨⟨k + 1, by omega, by go_num, H1.out.store⟩, by simp [intOf]; omega⟩
    · obtain rfl : k = n := by omega
      have a0 := hat.1.cell' (i := 0) rfl
      have a1 := hat.1.cell' (i := 1) rfl
      have a2 := hat.1.cell' (i := 2) rfl
      have a3 := hat.1.cell' (i := 3) rfl
      have b0 := hat.2.1.cell' (i := 0) rfl
      have b1 := hat.2.1.cell' (i := 1) rfl
      have b2 := hat.2.1.cell' (i := 2) rfl
      have b3 := hat.2.1.cell' (i := 3) rfl
      have f0 := hat.2.1.frozen 0
      have f1 := hat.2.1.frozen 1
      have f2 := hat.2.1.frozen 2
      have f3 := hat.2.1.frozen 3
      have HB := Lib.hid hat.2.2
      have hsz := hat.1.lt
      clear hat
      go_wp2
      refine bodyPost_ret (v := Value.agg #[.int .u64 (setW (ofP Z k) 0 : Int), .int .u64 (setW (ofP Z k) 1 : Int), .int .u64 (setW (ofP Z k) 2 : Int), .int .u64 (setW (ofP Z k) 3 : Int)]) (by simp [results, Tryd.results41, go_sem, b0, b1, b2, b3]) rfl ⟨rfl, ?_⟩
      exact gr_set (gr_set (gr_set (gr_set HB.out (by simp) _) (by simp) _) (by simp) _) (by simp) _

/-- The bytes that stay besides letters and digits. -/
def othB (k : Nat) : UInt8 := ([45, 46, 95, 126, 47, 58, 64, 33, 42, 40, 41, 44, 36] : List UInt8).getD k 0
theorem oth_at0 : ∀ k : Nat, k < 13 → ([45, 46, 95, 126, 47, 58, 64, 33, 42, 40, 41, 44, 36] : List UInt8)[k]? = some (othB k) := by decide
theorem oth_at (k : Nat) (hk : k < 13) (h' : k < ({ data := #[45, 46, 95, 126, 47, 58, 64, 33, 42, 40, 41, 44, 36] } : ByteArray).size) : ({ data := #[45, 46, 95, 126, 47, 58, 64, 33, 42, 40, 41, 44, 36] } : ByteArray)[k]'h' = othB k := by
  have e := oth_at0 k hk
  rw [List.getElem?_eq_some_iff] at e
  obtain ⟨_, e⟩ := e
  exact e
theorem oth_yes : ∀ k : Nat, k < 13 → stP (othB k).toNat = true := by decide +kernel
theorem st_no {c : Nat} (h1 : ¬ (97 ≤ c ∧ c ≤ 122)) (h2 : ¬ (65 ≤ c ∧ c ≤ 90)) (h3 : ¬ (48 ≤ c ∧ c ≤ 57)) (h : ∀ j, j < 13 → (othB j).toNat ≠ c) : stP c = false := by
  have a0 := h 0 (by decide); have a1 := h 1 (by decide); have a2 := h 2 (by decide); have a3 := h 3 (by decide); have a4 := h 4 (by decide); have a5 := h 5 (by decide); have a6 := h 6 (by decide)
  have a7 := h 7 (by decide); have a8 := h 8 (by decide); have a9 := h 9 (by decide); have a10 := h 10 (by decide); have a11 := h 11 (by decide); have a12 := h 12 (by decide)
  change 45 ≠ c at a0; change 46 ≠ c at a1; change 95 ≠ c at a2; change 126 ≠ c at a3; change 47 ≠ c at a4; change 58 ≠ c at a5; change 64 ≠ c at a6
  change 33 ≠ c at a7; change 42 ≠ c at a8; change 40 ≠ c at a9; change 41 ≠ c at a10; change 44 ≠ c at a11; change 36 ≠ c at a12
  cases e : stP c
  · rfl
  · unfold stP at e
    simp at e
    omega
set_option maxRecDepth 100000 in
set_option maxHeartbeats 2000000 in
theorem rstays (c : Nat) (hc : c < 256) (w : World) :
    Calls Tryd.prog 40 #[.int .u8 (c : Int)] w fun e w' => e = .returned (.bool (stP c)) ∧ w' = w := by
  have yes : (97 ≤ c ∧ c ≤ 122) ∨ (65 ≤ c ∧ c ≤ 90) ∨ (48 ≤ c ∧ c ≤ 57) → stP c = true := by
    intro h
    unfold stP
    rcases h with h | h | h
    · rw [decide_eq_true h.1, decide_eq_true h.2]; rfl
    · rw [decide_eq_true h.1, decide_eq_true h.2]; simp
    · rw [decide_eq_true h.1, decide_eq_true h.2]; simp
  have tail : ¬ (97 ≤ c ∧ c ≤ 122) → ¬ (65 ≤ c ∧ c ≤ 90) → ¬ (48 ≤ c ∧ c ≤ 57) → Calls Tryd.prog 40 #[.int .u8 (c : Int)] w fun e w' => e = .returned (.bool (stP c)) ∧ w' = w := by
    intro h1 h2 h3
    have HN := Lib.hid (And.intro h1 (And.intro h2 h3))
    have q1 : (c : Int) < 48 ∨ (57 < (c : Int) ∧ (c : Int) < 65) ∨ (90 < (c : Int) ∧ (c : Int) < 97) ∨ 122 < (c : Int) := by omega
    clear h1 h2 h3 yes
    have fin : ∀ (iv : Value) (wr : World), (∃ k : Nat, k ≤ 13 ∧ iv = .int .i64 (k : Int) ∧ (∀ j, j < k → (othB j).toNat ≠ c) ∧ wr = w) → True := fun _ _ _ => trivial
    rcases q1 with q | ⟨q, q'⟩ | ⟨q, q'⟩ | q
    all_goals
      go_enter Tryd.func40, Tryd.ntmps40
      go_wp2_with (fail)
      go_loopw [3] (fun iv wr => ∃ k : Nat, k ≤ 13 ∧ iv = .int .i64 (k : Int) ∧ (∀ j, j < k → (othB j).toNat ≠ c) ∧ wr = w) (fun iv _ => 13 - (intOf iv).toNat)
      case atStart => exact ⟨0, Nat.zero_le _, rfl, fun j hj => absurd hj (by omega), rfl⟩
      case round =>
        obtain ⟨k, hk, rfl, hall, rfl⟩ := hrel
        have HA := Lib.hid hall
        clear hall
        by_cases hlt : k < 13
        · have e1 := fun h' => oth_at k hlt h'
          have hy := Lib.hid (oth_yes k hlt)
          obtain ⟨x, hx⟩ : ∃ x, x = othB k := ⟨_, rfl⟩
          rw [← hx] at e1 hy
          have HX := Lib.hid hx
          clear hx
          by_cases hxc : x.toNat = c
          · have hq : ((x.toNat : Int) == (c : Int)) = true := beq_iff_eq.2 (by omega)
            have HC := Lib.hid hxc
            clear hxc
            go_wp2_with (fail)
            go_ret
            exact ⟨by rw [← HC.out, hy.out]; rfl, rfl⟩
          · have hq : ((x.toNat : Int) == (c : Int)) = false := beq_eq_false_iff_ne.2 (by omega)
            have HC := Lib.hid hxc
            clear hxc
            go_wp2_with (fail)
            go_roundw
            case rel =>
              refine ⟨k + 1, by omega, rfl, fun j hj => ?_, trivial⟩
              by_cases hjk : j = k
              · subst hjk; rw [← HX.out]; exact HC.out
              · exact HA.out j (by omega)
            case measure => simp [intOf]; omega
        · have hk13 : k = 13 := by omega
          subst hk13
          go_wp2_with (fail)
          go_ret
          exact ⟨by rw [st_no HN.out.1 HN.out.2.1 HN.out.2.2 HA.out]; rfl, rfl⟩
  by_cases h1 : 97 ≤ c ∧ c ≤ 122
  · have HY := Lib.hid (yes (.inl h1))
    have a1 : (97 : Int) ≤ c := by omega
    have a2 : (c : Int) ≤ 122 := by omega
    clear h1 tail yes
    go_enter Tryd.func40, Tryd.ntmps40
    go_wp2_with (fail)
    go_ret
    exact ⟨by rw [HY.out]; rfl, rfl⟩
  · by_cases h2 : 65 ≤ c ∧ c ≤ 90
    · have HY := Lib.hid (yes (.inr (.inl h2)))
      have a1 : (65 : Int) ≤ c := by omega
      have a2 : (c : Int) ≤ 90 := by omega
      have a3 : ¬ (97 : Int) ≤ c := by omega
      clear h1 h2 tail yes
      go_enter Tryd.func40, Tryd.ntmps40
      go_wp2_with (fail)
      go_ret
      exact ⟨by rw [HY.out]; rfl, rfl⟩
    · by_cases h3 : 48 ≤ c ∧ c ≤ 57
      · have HY := Lib.hid (yes (.inr (.inr h3)))
        have a1 : (48 : Int) ≤ c := by omega
        have a2 : (c : Int) ≤ 57 := by omega
        have a3 : ¬ (97 : Int) ≤ c := by omega
        have a4 : ¬ (65 : Int) ≤ c := by omega
        clear h1 h2 h3 tail yes
        go_enter Tryd.func40, Tryd.ntmps40
        go_wp2_with (fail)
        go_ret
        exact ⟨by rw [HY.out]; rfl, rfl⟩
      · exact tail h1 h2 h3

/-! The set of bytes that stay. -/
def stList (k : Nat) : List Nat := (List.range k).filter stP
def natV (l : List Nat) : List Value := l.map fun (x : Nat) => Value.int .u8 (x : Int)
theorem stList_succ (k : Nat) : stList (k + 1) = stList k ++ (if stP k then [k] else []) := by
  unfold stList
  rw [List.range_succ, List.filter_append]
  congr 1
  cases h : stP k <;> simp [List.filter, h]
theorem stList_len (k : Nat) : (stList k).length ≤ k := by
  unfold stList
  have := List.length_filter_le stP (List.range k)
  rw [List.length_range] at this
  exact this
theorem natV_flat (l : List Nat) : natV l = flatC (byteAt fun i => l.getD i 0) 1 l.length := by
  apply List.ext_getElem?
  intro i
  by_cases h : i < l.length
  · rw [flatC_at _ _ _ _ (by omega)]
    unfold natV byteAt
    rw [List.getElem?_map, List.getElem?_eq_getElem h, Nat.div_one]
    simp [List.getD_eq_getElem?_getD, List.getElem?_eq_getElem h]
  · rw [List.getElem?_eq_none (by unfold natV; rw [List.length_map]; omega), List.getElem?_eq_none (by rw [flatC_len]; omega)]
theorem stList_lt (i : Nat) : (stList 256).getD i 0 < 256 := by
  refine getD_lt _ ?_ i
  intro x hx
  unfold stList at hx
  have := (List.mem_filter.1 hx).1
  exact List.mem_range.1 this
theorem setV_stList : Value.agg #[.int .u64 (setW (ofP (fun i => (stList 256).getD i 0) (stList 256).length) 0 : Int), .int .u64 (setW (ofP (fun i => (stList 256).getD i 0) (stList 256).length) 1 : Int), .int .u64 (setW (ofP (fun i => (stList 256).getD i 0) (stList 256).length) 2 : Int), .int .u64 (setW (ofP (fun i => (stList 256).getD i 0) (stList 256).length) 3 : Int)] = Value.agg #[.int .u64 (setW stP 0 : Int), .int .u64 (setW stP 1 : Int), .int .u64 (setW stP 2 : Int), .int .u64 (setW stP 3 : Int)] := by
  have h : ∀ c, c < 256 → ofP (fun i => (stList 256).getD i 0) (stList 256).length c = stP c := by decide +kernel
  have := setC_ext h
  unfold setC at this
  rw [this]

set_option maxRecDepth 100000 in
set_option maxHeartbeats 2000000 in
theorem rStay (w : World) : Calls Tryd.prog 16 #[] w fun e w' => e = .returned (Value.agg #[.int .u64 (setW stP 0 : Int), .int .u64 (setW stP 1 : Int), .int .u64 (setW stP 2 : Int), .int .u64 (setW stP 3 : Int)]) ∧ Below w.heap.size w w' := by
  obtain ⟨i0, hi, hz0, hz1, hz2⟩ := info_parts infoByte
  go_enter Tryd.func16, Tryd.ntmps16
  go_wp2_with (fail)
  go_loopw [1, 2] (fun ov iv wr => ∃ k : Nat, k ≤ 256 ∧ iv = .int .i64 (k : Int) ∧ wr.ownsRow w.heap.size 5 1 ov (stList k).length (natV (stList k)) ∧ Blk wr w.heap.size 34 #[.int .u64 0, .int .u64 0, .int .u64 0, .int .u64 0] ∧ Below w.heap.size w wr) (fun _ iv _ => 256 - (intOf iv).toNat)
  case atStart => exact ⟨0, Nat.zero_le _, rfl, World.ownsRow_nil _ _ _ _, Blk.new _ _ _, gr_alloc (Below.refl _ _) _⟩
  case round =>
    obtain ⟨k, hk, rfl, hown, hblk, hbel⟩ := hrel
    obtain ⟨va, vc, rfl⟩ := own_slice hown
    have hll := stList_len k
    have hss := stList_succ k
    have hbz := hbel.size
    by_cases hlt : k < 256
    · have hw : IntKind.u8.wrap (k : Int) = (k : Int) := IntWalk.u8_in _ (by omega)
      obtain ⟨m, hm⟩ : ∃ m, m = (stList k).length := ⟨_, rfl⟩
      rw [← hm] at hll hown
      rw [← hm]
      cases hs : stP k
      · rw [hs, if_neg (by decide), List.append_nil] at hss
        have A := Lib.hid (And.intro hown (And.intro hblk (And.intro hbel (And.intro hss (And.intro hs hm)))))
        clear hown hblk hbel hss hs hm
        go_wp2_with (fail)
        refine (rstays k hlt _).mono ?_
        rintro e W1 ⟨rfl, rfl⟩
        rw [A.out.2.2.2.2.1]
        go_wp2_with (fail)
        go_roundw
        case rel => exact ⟨k + 1, by omega, rfl, by rw [A.out.2.2.2.1, ← A.out.2.2.2.2.2]; exact A.out.1, A.out.2.1, A.out.2.2.1⟩
        case measure => simp [intOf]; omega
      · rw [hs, if_pos rfl] at hss
        have A := Lib.hid (And.intro hblk (And.intro hbel (And.intro hss (And.intro hs hm))))
        clear hblk hbel hss hs hm
        go_wp2_with (fail)
        refine (rstays k hlt _).mono ?_
        rintro e W1 ⟨rfl, rfl⟩
        rw [A.out.2.2.2.1]
        go_wp2_with (at_builtin; refine wpList_append_own _ rfl _ _ 63 rfl w.heap.size 5 i0 (.int .u8 0) 1 1 Tryd.underlying63 hi hz0 hz1 hz2 rfl (by decide) _ _ _ rfl (hown.alloc _) ⟨W1.heap.size, 0, none⟩ 1 1 [.int .u8 (k : Int)] rfl rfl ?c1 ?c2 ?c3 ?c4 ?c5 ?_)
        case c1 => exact one_new rfl _ _
        case c2 => exact one_int _ _
        case c3 => unfold maxLen; omega
        case c4 => omega
        case c5 => simp; omega
        intro v' W2 hown' hgrow _
        obtain ⟨vb, vd, rfl⟩ := own_slice hown'
        have W := Lib.hid (And.intro hown' (And.intro hgrow hown))
        clear hown' hgrow hown
        go_wp2_with (fail)
        go_roundw
        case rel =>
          obtain ⟨hown', hgrow, hown⟩ := W.out
          have ha := A.out.1.alloc (.cells #[.int .u8 (k : Int)] 5)
          refine ⟨k + 1, by omega, rfl, ?_, ha.grown hgrow (own_blk_ne (hown.alloc _) ha (by decide)), (gr_alloc A.out.2.1 (.cells #[.int .u8 (k : Int)] 5)).grown hgrow (gr_alloc A.out.2.1 _).size (fun q hq => (hown.lt q hq).1)⟩
          rw [A.out.2.2.1, List.length_append, List.length_singleton, ← A.out.2.2.2.2]
          unfold natV
          rw [List.map_append]
          exact hown'
        case measure => simp [intOf]; omega
    · have hk2 : k = 256 := by omega
      subst hk2
      have hcl := hown
      rw [natV_flat] at hcl
      obtain ⟨A, c, e, hc, _⟩ := row_cells (by decide) hcl
      injection e with e1 e2 e3
      subst e1
      subst e3
      have hz := stList_len 256
      have C := Lib.hid (And.intro hblk (And.intro hbel hc))
      obtain ⟨m, hm⟩ : ∃ m, m = (stList 256).length := ⟨_, rfl⟩
      rw [← hm] at hz
      rw [← hm]
      have HM := Lib.hid hm
      clear hown hblk hbel hcl hc e2 hss hm hll
      go_wp2_with (fail)
      rw [HM.out]
      refine (rof _ _ _ _ stList_lt (by rw [← HM.out]; omega) _ C.out.2.2).mono ?_
      rintro e W2 ⟨rfl, h2⟩
      rw [setV_stList]
      have r1 := C.out.1.call h2
      have b0 := r1.cell' (i := 0) rfl
      have b1 := r1.cell' (i := 1) rfl
      have b2 := r1.cell' (i := 2) rfl
      have b3 := r1.cell' (i := 3) rfl
      have f0 := r1.frozen 0
      have f1 := r1.frozen 1
      have f2 := r1.frozen 2
      have f3 := r1.frozen 3
      have hl := r1.lt
      have H2 := Lib.hid (gr_call C.out.2.1 h2)
      clear r1 h2
      generalize hst : stP = st
      have HS := Lib.hid hst
      clear hst
      go_wp2_with (fail)
      refine bodyPost_ret (v := Value.agg #[.int .u64 (setW st 0 : Int), .int .u64 (setW st 1 : Int), .int .u64 (setW st 2 : Int), .int .u64 (setW st 3 : Int)]) (by simp [results, Tryd.results16, go_sem, b0, b1, b2, b3, hl]) rfl ⟨by rw [HS.out], ?_⟩
      exact gr_set (gr_set (gr_set (gr_set H2.out (by simp) _) (by simp) _) (by simp) _) (by simp) _
end Go.Proofs.YtfbkbnojbbpopaaDoor
