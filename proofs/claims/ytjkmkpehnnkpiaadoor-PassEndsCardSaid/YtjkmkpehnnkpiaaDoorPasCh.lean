/-
  PassChains, walked: it returns true, whatever the input; condition: the two tables lie as they are laid.
-/
import Derived.Test.YtjkmkpehnnkpiaaDoorPasF2
import Derived.IntWalk
namespace Go.Proofs.YtjkmkpehnnkpiaaDoor
open Go.RowKit Go.Joins Go.Shelf
set_option linter.unusedVariables false
set_option linter.unusedSimpArgs false

theorem cells_outC {W : World} {D n : Nat} {l : List Nat} (h : Blk W D 4 (outC l n)) : Cells W (some ⟨D, 0, none⟩) 1 n (boolAt (inL l)) := by
  intro hn
  refine ⟨D, 0, rfl, h.lt, fun i j hi hj => ?_⟩
  obtain rfl : j = 0 := by omega
  rw [Nat.zero_add, Nat.mul_one, Nat.add_zero, h.cell, outC_at _ _ _ hi]
  rfl
theorem inL_nil : inL [] = fun _ => false := by funext k; simp [inL]
theorem cell_bool {W : World} {A : Option Addr} {n k : Nat} {H : Nat → Bool} (h : Cells W A 1 n (boolAt H)) (hk : k < n) : ∃ b off, A = some ⟨b, off, none⟩ ∧ b < W.heap.size ∧ W.cell? ⟨b, off + k, none⟩ = some (.bool (H k)) := by
  obtain ⟨b, off, e, hl, hc⟩ := h (by omega)
  have h1 := hc k 0 hk (by decide)
  rw [Nat.mul_one, Nat.add_zero] at h1
  exact ⟨b, off, e, hl, h1⟩
theorem cell_bool_at {W : World} {b off n k : Nat} {H : Nat → Bool} (h : Cells W (some ⟨b, off, none⟩) 1 n (boolAt H)) (hk : k < n) : W.cell? ⟨b, off + k, none⟩ = some (.bool (H k)) := by
  obtain ⟨b', off', e, _, hc⟩ := cell_bool h hk
  cases e
  exact hc
theorem cell_flag_at {W : World} {b off n k : Nat} {F : Nat → Flg} (h : Cells W (some ⟨b, off, none⟩) 10 n (flgAt F)) (hk : k < n) : W.cell? ⟨b, off + k * 10 + 2, none⟩ = some (.bool (F k).chain) := by
  obtain ⟨b', off', e, _, hc⟩ := h (by omega)
  cases e
  exact hc k 2 hk (by decide)
def LoopRel (q : Nat) (w : World) (i : Value) (wr : World) : Prop := Below w.heap.size w wr ∧ ∃ k : Nat, k ≤ q ∧ i = .int .i64 (k : Int)

set_option maxRecDepth 100000 in
set_option maxHeartbeats 8000000 in
theorem law_chains (G K : Nat → Int) (hG : NumOk G) (hK : NumOk K) (A AA : Option Addr) (n c m cc : Nat) (w : World) (hT : Tabs w) (hg : Cells w A 1 n (numAt G)) (hk : Cells w AA 1 m (numAt K)) :
    Calls Tryd.prog 6 #[.slice A n c, .slice AA m cc] w fun e W' => e = .returned (.bool true) ∧ Below w.heap.size w W' := by
  obtain ⟨q, hq⟩ : ∃ q, q = min n 12 := ⟨_, rfl⟩
  have hq12 : q ≤ 12 := by omega
  have HA := Lib.hid (And.intro hG (And.intro hK (And.intro hT (And.intro hg (And.intro hk hq)))))
  clear hG hK hT hg hk hq
  go_enter Tryd.func6, Tryd.ntmps6
  go_wp2_with (fail)
  refine (lmade G HA.out.1 A n c false q HA.out.2.2.2.2.2 w HA.out.2.2.2.1).mono ?_
  rintro e W1 ⟨B, d, rfl, k1, k2, k3, _⟩
  have H1 := Lib.hid (And.intro k3 (And.intro k2 k1))
  clear k1 k2 k3
  go_wp2_with (fail)
  refine (lbools K HA.out.2.1 AA m cc q (by omega) _ (HA.out.2.2.2.2.1.below H1.out.1)).mono ?_
  rintro e W2 ⟨C, dc, rfl, k1, k2, k3, _⟩
  have H2 := Lib.hid (And.intro (gr_call H1.out.1 k3) (And.intro H1.out.2.1 (And.intro (H1.out.2.2.below k3) k1)))
  clear k1 k2 k3 H1
  have hmk := fun W => run_make_row' 31 4 (.bool false) 1 Tryd.underlying31 infoBoolY rfl .i64 .i64 q (by omega) (by omega) W
  simp only [made_outC] at hmk
  go_wp2_with (fail)
  have z3 := gr_alloc H2.out.1 (.cells (outC [] q) 4)
  have b3 := Blk.new W2 4 (outC [] q)
  have g3 : Cells (W2.alloc (.cells (outC [] q) 4)) (some ⟨W2.heap.size, 0, none⟩) 1 q (boolAt fun _ => false) := by have := cells_outC b3; rwa [inL_nil] at this
  have al : Below W2.heap.size W2 (W2.alloc (.cells (outC [] q) 4)) := gr_alloc (Below.refl _ _) _
  have H3 := Lib.hid (And.intro z3 (And.intro (H2.out.2.2.1.below al) (H2.out.2.2.2.below al)))
  refine (ptried (mkG false G) (skip_made false G) B (some ⟨W2.heap.size, 0, none⟩) q d q (fun _ => false) (by omega) _ (HA.out.2.2.1.below z3 (Nat.le_refl _)) H2.out.2.1 H3.out.2.1 g3 (flags_made false G q hq12)).mono ?_
  rintro e W4 ⟨D1, i1, rfl, r1, r2, r3, r4, r5⟩
  rw [tried_sq r1] at r4
  have hE : ∀ k, k < q → inL (sqL (mkG false G) q (fun _ => false) i1) k = (k == 0 || !(mkG false G (k - 1)).chain) := by
    have ho : Over (mkG false G) q (fun _ => false) i1 := by
      rcases (fixed_stop r1 r2 r3).2 with h | ⟨h, h'⟩
      · exact h
      · obtain ⟨j, hj⟩ := over_no_next (F := mkG false G) (n := q) (H := fun _ => false) (fun k => chk_made _ _) (made_no_next G)
        have := over_le (fun k => chk_made _ _) hj
        rcases Nat.lt_or_ge j i1 with h5 | h5
        · have := (fixed_stop r1 r2 r3).1 j h5; have := hj.1; omega
        · obtain rfl : j = i1 := by omega
          exact hj
    exact fun k hk => chains_none (fun k => chk_made _ _) ho k hk
  obtain ⟨E, hEE⟩ : ∃ E, E = inL (sqL (mkG false G) q (fun _ => false) i1) := ⟨_, rfl⟩
  rw [← hEE] at r4 hE
  have H4 := Lib.hid (And.intro (gr_call H3.out.1 r5) (And.intro (H3.out.2.1.below r5) (And.intro (H3.out.2.2.below r5) (And.intro r4 hE))))
  have HB := Lib.hid H2.out.2.1
  clear hmk z3 b3 g3 al H3 H2 r1 r2 r3 r4 r5 hE hEE
  go_wp2_with (fail)
  refine (ptried (mkG false G) (skip_made false G) B C q d dc (ansG K m) (by omega) _ (HA.out.2.2.1.below H4.out.1 (Nat.le_refl _)) HB.out H4.out.2.1 H4.out.2.2.1 (flags_made false G q hq12)).mono ?_
  rintro e W5 ⟨D2, i2, rfl, r1, r2, r3, r4, r5⟩
  rw [tried_sq r1] at r4
  have hE2 : ∀ k, k + 1 < q → (mkG false G k).chain = true → inL (sqL (mkG false G) q (ansG K m) i2) k = true → ansG K m k = false → inL (sqL (mkG false G) q (ansG K m) i2) (k + 1) = false := by
    have ho : Over (mkG false G) q (ansG K m) i2 := by
      rcases (fixed_stop r1 r2 r3).2 with h | ⟨h, h'⟩
      · exact h
      · obtain ⟨j, hj⟩ := over_no_next (F := mkG false G) (n := q) (H := ansG K m) (fun k => chk_made _ _) (made_no_next G)
        have := over_le (fun k => chk_made _ _) hj
        rcases Nat.lt_or_ge j i2 with h5 | h5
        · have := (fixed_stop r1 r2 r3).1 j h5; have := hj.1; omega
        · obtain rfl : j = i2 := by omega
          exact hj
    exact fun k h1 h2 h3 h4 => chains_skip (fun k => chk_made _ _) ho k h1 h2 h3 h4
  obtain ⟨E2, hEE⟩ : ∃ E2, E2 = inL (sqL (mkG false G) q (ansG K m) i2) := ⟨_, rfl⟩
  rw [← hEE] at r4 hE2
  have H5 := Lib.hid (And.intro (gr_call H4.out.1 r5) (And.intro (H4.out.2.1.below r5) (And.intro (H4.out.2.2.1.below r5) (And.intro (H4.out.2.2.2.1.below r5) (And.intro r4 (And.intro H4.out.2.2.2.2 hE2))))))
  clear H4 r1 r2 r3 r4 r5 hE2 hEE
  obtain ⟨F, hF⟩ : ∃ F, F = mkG false G := ⟨_, rfl⟩
  obtain ⟨Q, hQ⟩ : ∃ Q, Q = ansG K m := ⟨_, rfl⟩
  rw [← hF, ← hQ] at H5
  clear hF hQ
  have hqb : ((q : Int) != (q : Int)) = false := by simp
  go_wp2_with (fail)
  clear hqb
  go_loopw [11] (fun i wr => LoopRel q w i wr ∧ Below W5.heap.size W5 wr) (fun i _ => q - (intOf i).toNat)
  case atStart => exact ⟨⟨H5.out.1, 0, Nat.zero_le _, rfl⟩, Below.refl _ _⟩
  case round =>
    obtain ⟨⟨hb, k, hk, rfl⟩, hb5⟩ := hrel
    have HR := Lib.hid (And.intro hb hb5)
    clear hb hb5
    by_cases hlt : k < q
    · have hEk := H5.out.2.2.2.2.2.1 k hlt
      have cE := cell_bool_at (H5.out.2.2.2.1.below HR.out.2) hlt
      cases k with
      | zero =>
        have hE0 : E 0 = true := by rw [hEk]; rfl
        rw [hE0] at cE
        clear hE0 hEk
        go_wp2_with (fail)
        go_quiet (fail)
        go_wp2_with (fail)
        exact ⟨⟨⟨below_drewN HR.out.1 _, 1, by omega, rfl⟩, below_drewN HR.out.2 _⟩, by simp [intOf]; omega⟩
      | succ j =>
        have hj : j < q := by omega
        obtain ⟨fb, fo, rfl, fl, fx⟩ := (H5.out.2.1.below HR.out.2) (by omega)
        clear fx
        have cF := cell_flag_at (H5.out.2.1.below HR.out.2) hj
        have hEj : E (j + 1) = !(F j).chain := by rw [hEk]; simp
        rw [hEj] at cE
        have cE2 := cell_bool_at (H5.out.2.2.2.2.1.below HR.out.2) hj
        have cE3 := cell_bool_at (H5.out.2.2.2.2.1.below HR.out.2) hlt
        obtain ⟨hb, ho, rfl, hl, cH⟩ := cell_bool (H5.out.2.2.1.below HR.out.2) hj
        have hE2 := H5.out.2.2.2.2.2.2 j hlt
        clear hEk hEj
        rw [Nat.zero_add] at cE cE2 cE3
        generalize (F j).chain = ch at cF cE hE2
        generalize E2 j = t2 at cE2 hE2
        generalize E2 (j + 1) = t3 at cE3 hE2
        generalize Q j = hq at cH hE2
        have hz : ((j : Int) + 1 == 0) = false := by rw [beq_eq_false_iff_ne]; omega
        have hz1 : (0 : Int) < (j : Int) + 1 := by omega
        have hz2 : (j : Int) + 1 < (q : Int) := by omega
        have hz3 : (0 : Int) ≤ (j : Int) + 1 := by omega
        have hz5 : (0 : Int) ≤ (j : Int) := by omega
        have hz6 : (j : Int) < (q : Int) := by omega
        have hz4 : ((j : Int) + 1).toNat = j + 1 := by omega
        have hz7 : IntKind.i64.wrap (j : Int) = (j : Int) := IntWalk.i64_in _ (by omega)
        have hE3 : ch = true ∧ t2 = true ∧ hq = false → t3 = false := fun h => hE2 h.1 h.2.1 h.2.2
        clear hE2
        cases ch with
        | false =>
          clear hE3
          go_wp2_with (fail)
          go_quiet (fail)
          go_wp2_with (fail)
          exact ⟨⟨⟨below_drewN HR.out.1 _, j + 2, by omega, by go_num⟩, below_drewN HR.out.2 _⟩, by simp [intOf]; omega⟩
        | true =>
          cases t2 with
          | false =>
            clear hE3
            go_wp2_with (fail)
            go_quiet (fail)
            go_wp2_with (fail)
            exact ⟨⟨⟨below_drewN HR.out.1 _, j + 2, by omega, by go_num⟩, below_drewN HR.out.2 _⟩, by simp [intOf]; omega⟩
          | true =>
            cases hq with
            | true =>
              clear hE3
              go_wp2_with (fail)
              go_quiet (fail)
              go_wp2_with (fail)
              exact ⟨⟨⟨below_drewN HR.out.1 _, j + 2, by omega, by go_num⟩, below_drewN HR.out.2 _⟩, by simp [intOf]; omega⟩
            | false =>
              obtain rfl := hE3 ⟨rfl, rfl, rfl⟩
              clear hE3
              go_wp2_with (fail)
              go_quiet (fail)
              go_wp2_with (fail)
              exact ⟨⟨⟨below_drewN HR.out.1 _, j + 2, by omega, by go_num⟩, below_drewN HR.out.2 _⟩, by simp [intOf]; omega⟩
    · obtain rfl : k = q := by omega
      go_wp2_with (fail)
      refine (awake _ (HA.out.2.2.1.below HR.out.1 (Nat.le_refl _))).mono ?_
      rintro e W6 ⟨rfl, h6⟩
      have H6 := Lib.hid (gr_call HR.out.1 h6)
      clear h6
      go_wp2_with (fail)
      go_ret
      exact ⟨rfl, H6.out⟩
end Go.Proofs.YtjkmkpehnnkpiaaDoor
