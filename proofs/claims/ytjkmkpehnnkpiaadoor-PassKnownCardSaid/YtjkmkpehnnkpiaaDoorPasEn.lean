/-
  PassEnds, walked: it returns true, whatever the input; condition: the two tables lie as they are laid.
-/
import Derived.Test.YtjkmkpehnnkpiaaDoorPasCh
namespace Go.Proofs.YtjkmkpehnnkpiaaDoor
open Go.RowKit Go.Joins Go.Shelf
set_option linter.unusedVariables false
set_option linter.unusedSimpArgs false

theorem cell_int_at {W : World} {b off n k : Nat} {L : List Int} (h : Cells W (some ⟨b, off, none⟩) 1 n (intsAt L)) (hk : k < n) : W.cell? ⟨b, off + k, none⟩ = some (.int .i64 (L.getD k 0)) := by
  obtain ⟨b', off', e, _, hc⟩ := h (by omega)
  cases e
  have h1 := hc k 0 hk (by decide)
  rwa [Nat.mul_one, Nat.add_zero] at h1
theorem mem_take_succ {L : List Int} {x : Int} {k : Nat} (hk : k < L.length) (h : x ∉ L.take k) (h1 : L.getD k 0 ≠ x) : x ∉ L.take (k + 1) := by
  rw [List.take_add_one, List.getElem?_eq_getElem hk]
  simp only [Option.toList_some, List.mem_append, List.mem_singleton, not_or]
  refine ⟨h, fun e => h1 ?_⟩
  simp [hk, e]

set_option maxRecDepth 100000 in
set_option maxHeartbeats 2000000 in
theorem khas (L : List Int) (x : Int) (A : Option Addr) (c : Nat) (hL : L.length ≤ 1000000) (w : World) (hA : Cells w A 1 L.length (intsAt L)) :
    Calls Tryd.prog 38 #[.slice A L.length c, .int .i64 x] w fun e W' => e = .returned (.bool (decide (x ∈ L))) ∧ W' = w := by
  have H := Lib.hid hA
  clear hA
  obtain ⟨n, hn⟩ : ∃ n, n = L.length := ⟨_, rfl⟩
  have HN := Lib.hid hn
  rw [← hn] at hL ⊢
  clear hn
  go_enter Tryd.func38, Tryd.ntmps38
  go_wp2_with (fail)
  go_loop [5] (fun i => ∃ k : Nat, k ≤ n ∧ i = .int .i64 (k : Int) ∧ x ∉ L.take k) (fun i => n - (intOf i).toNat)
  case atStart => exact ⟨0, Nat.zero_le _, rfl, by simp⟩
  case round =>
    obtain ⟨k, hk, rfl, hno⟩ := hrel
    have HO := Lib.hid hno
    clear hno
    by_cases hlt : k < n
    · have hc := H.out
      rw [← HN.out] at hc
      obtain ⟨ab, ao, rfl, had, hcl⟩ := hc (by omega)
      have c0 := cell_int_at (L := L) (k := k) (n := n) (W := w) (b := ab) (off := ao) (fun _ => ⟨ab, ao, rfl, had, hcl⟩) hlt
      clear hcl hc
      obtain ⟨y, hy⟩ : ∃ y, y = L.getD k 0 := ⟨_, rfl⟩
      rw [← hy] at c0
      have HY := Lib.hid hy
      clear hy
      by_cases hxy : y = x
      · have hb : (y == x) = true := by simpa using hxy
        have HX := Lib.hid hxy
        clear hxy
        go_wp2_with (fail)
        go_ret
        refine ⟨ret_bool (decide_eq_true ?_).symm, rfl⟩
        rw [← HX.out, HY.out]
        have hkl : k < L.length := by rw [← HN.out]; exact hlt
        simp [hkl]
      · have hb : (y == x) = false := by simpa using hxy
        have HX := Lib.hid hxy
        clear hxy
        go_wp2_with (fail)
        go_round
        case rel => exact ⟨k + 1, by omega, by go_num, mem_take_succ (by rw [← HN.out]; exact hlt) HO.out (by rw [← HY.out]; exact HX.out)⟩
        case measure => simp [intOf]; omega
    · obtain rfl : k = n := by omega
      go_wp2_with (fail)
      go_ret
      refine ⟨ret_bool (decide_eq_false ?_).symm, rfl⟩
      have := HO.out
      rwa [HN.out, List.take_length] at this

/-- What Fixed with as many tries as rules, Fixed with more, and Tried answer together. -/
theorem ends_plain {nx : Bool} {G : Nat → Int} {n : Nat} {H : Nat → Bool} {L1 L2 : List Nat} {n1 n2 : Bool} {e1 e2 : Int} {i : Nat} (hn : n ≤ 12)
    (h1 : FixP (mkG nx G) n H n L1 n1 e1) (h2 : FixP (mkG nx G) n H 5000 L2 n2 e2) (hi : i ≤ 2 * n) (hh : Halt (mkG nx G) n (ansF H (2 * n)) 0 i) (hg : Good (mkG nx G) n (ansF H (2 * n)) 0 i) :
    e1 = e2 ∧ L1 = L2 ∧ ((e1 = 13 ∧ nx = true ∧ L1 = []) ∨ (e1 = 0 ∧ (∀ k, inL (sqL (mkG nx G) n H i) k = decide ((k : Int) ∈ L1.map fun (k : Nat) => (k : Int))) ∧ ∀ k, k + 1 < (L1.map fun (k : Nat) => (k : Int)).length → (L1.map fun (k : Nat) => (k : Int)).getD k 0 < (L1.map fun (k : Nat) => (k : Int)).getD (k + 1) 0)) := by
  have hc : ∀ k, chkF (mkG nx G k) = 0 := fun k => chk_made _ _
  rcases h1 with ⟨rfl, a, ha, oa, rfl, _⟩ | ⟨rfl, rfl, ha⟩
  · have h2' : e2 = 0 ∧ L2 = sqL (mkG nx G) n H a := by
      rcases h2 with ⟨rfl, b, hb, ob, rfl, _⟩ | ⟨rfl, rfl, hb⟩
      · rw [over_unique ob oa]; exact ⟨rfl, rfl⟩
      · have := hb a (by omega); have := oa.1; omega
    obtain ⟨rfl, rfl⟩ := h2'
    have hia : i = a := by
      rcases fixed_stop hi hh hg with ⟨s1, s2 | ⟨s2, s3⟩⟩
      · exact over_unique s2 oa
      · have h5 := over_le hc oa
        rcases Nat.lt_or_ge a i with h6 | h6
        · have := s1 a h6; have := oa.1; omega
        · have : i = a := by omega
          exact this
    subst hia
    refine ⟨rfl, rfl, Or.inr ⟨rfl, fun k => ?_, fun k hk => ?_⟩⟩
    · unfold inL
      rw [decide_eq_decide, List.mem_map]
      exact ⟨fun h => ⟨k, h, rfl⟩, fun ⟨j, hj, e⟩ => by rwa [show j = k by omega] at hj⟩
    · rw [List.length_map] at hk
      have hk' : k + 1 < i := by simpa [sqL] using hk
      have e0 : ∀ j, j < i → ((sqL (mkG nx G) n H i).map fun (k : Nat) => (k : Int)).getD j 0 = (sq (mkG nx G) n H j : Int) := fun j hj => by simp [sqL, hj]
      rw [e0 k (by omega), e0 (k + 1) hk']
      have := sq_asc_over hc oa (a := k) (by omega)
      omega
  · have hnv : ∀ j, ¬ Over (mkG nx G) n H j := fun j hj => by
      have := over_le hc hj
      have := ha j (by omega)
      have := hj.1
      omega
    have h2' : e2 = 13 ∧ L2 = [] := by
      rcases h2 with ⟨_, b, hb, ob, _⟩ | ⟨rfl, rfl, _⟩
      · exact absurd ob (hnv b)
      · exact ⟨rfl, rfl⟩
    obtain ⟨rfl, rfl⟩ := h2'
    refine ⟨rfl, rfl, Or.inl ⟨rfl, ?_, rfl⟩⟩
    cases nx with
    | true => rfl
    | false =>
      obtain ⟨j, hj⟩ := over_no_next (F := mkG false G) (n := n) (H := H) hc (made_no_next G)
      exact absurd hj (hnv j)

set_option maxRecDepth 100000 in
set_option maxHeartbeats 8000000 in
theorem law_ends (G K : Nat → Int) (hG : NumOk G) (hK : NumOk K) (A AA : Option Addr) (n c m cc : Nat) (nx : Bool) (w : World) (hT : Tabs w) (hg : Cells w A 1 n (numAt G)) (hk : Cells w AA 1 m (numAt K)) :
    Calls Tryd.prog 8 #[.slice A n c, .slice AA m cc, .bool nx] w fun e W' => e = .returned (.bool true) ∧ Below w.heap.size w W' := by
  obtain ⟨q, hq⟩ : ∃ q, q = min n 12 := ⟨_, rfl⟩
  have hq12 : q ≤ 12 := by omega
  have HA := Lib.hid (And.intro hG (And.intro hK (And.intro hT (And.intro hg (And.intro hk hq)))))
  clear hG hK hT hg hk hq
  go_enter Tryd.func8, Tryd.ntmps8
  go_wp2_with (fail)
  refine (lmade G HA.out.1 A n c nx q HA.out.2.2.2.2.2 w HA.out.2.2.2.1).mono ?_
  rintro e W1 ⟨B, d, rfl, k1, k2, k3, _⟩
  have H1 := Lib.hid (And.intro k3 (And.intro k2 k1))
  clear k1 k2 k3
  go_wp2_with (fail)
  refine (lbools K HA.out.2.1 AA m cc q (by omega) _ (HA.out.2.2.2.2.1.below H1.out.1)).mono ?_
  rintro e W2 ⟨C, dc, rfl, k1, k2, k3, _⟩
  have H2 := Lib.hid (And.intro (gr_call H1.out.1 k3) (And.intro H1.out.2.1 (And.intro (H1.out.2.2.below k3) k1)))
  clear k1 k2 k3 H1
  go_wp2_with (fail)
  refine (pFixed (mkG nx G) (skip_made nx G) B C q d dc q (ansG K m) (by omega) (by omega) _ (HA.out.2.2.1.below H2.out.1 (Nat.le_refl _)) H2.out.2.1 H2.out.2.2.1 H2.out.2.2.2 (flags_made nx G q hq12)).mono ?_
  rintro e W3 ⟨v1, n1, e1, L1, rfl, p1, len1, ⟨A1, c1, rfl, i1, _⟩, r1⟩
  have H3 := Lib.hid (And.intro (gr_call H2.out.1 r1) (And.intro H2.out.2.1 (And.intro (H2.out.2.2.1.below r1) (And.intro (H2.out.2.2.2.below r1) i1))))
  have HP1 := Lib.hid (And.intro p1 len1)
  clear r1 i1 p1 len1 H2
  go_wp2_with (fail)
  refine (pFixed (mkG nx G) (skip_made nx G) B C q d dc 5000 (ansG K m) (by omega) (by omega) _ (HA.out.2.2.1.below H3.out.1 (Nat.le_refl _)) H3.out.2.1 H3.out.2.2.1 H3.out.2.2.2.1 (flags_made nx G q hq12)).mono ?_
  rintro e W4 ⟨v2, n2, e2, L2, rfl, p2, len2, ⟨A2, c2, rfl, i2, _⟩, r2⟩
  have H4 := Lib.hid (And.intro (gr_call H3.out.1 r2) (And.intro H3.out.2.1 (And.intro (H3.out.2.2.1.below r2) (And.intro (H3.out.2.2.2.1.below r2) (And.intro (H3.out.2.2.2.2.below r2) i2)))))
  have HP2 := Lib.hid p2
  clear r2 i2 p2 len2 H3
  go_wp2_with (fail)
  refine (ptried (mkG nx G) (skip_made nx G) B C q d dc (ansG K m) (by omega) _ (HA.out.2.2.1.below H4.out.1 (Nat.le_refl _)) H4.out.2.1 H4.out.2.2.1 H4.out.2.2.2.1 (flags_made nx G q hq12)).mono ?_
  rintro e W5 ⟨D, i, rfl, r1, r2, r3, r4, r5⟩
  rw [tried_sq r1] at r4
  obtain ⟨rfl, rfl, hcase⟩ := ends_plain hq12 HP1.out.1 HP2.out r1 r2 r3
  obtain ⟨E, hEE⟩ : ∃ E, E = inL (sqL (mkG nx G) q (ansG K m) i) := ⟨_, rfl⟩
  rw [← hEE] at r4 hcase
  obtain ⟨L, hL⟩ : ∃ L, L = L1.map fun (k : Nat) => (k : Int) := ⟨_, rfl⟩
  have hLl : L.length ≤ q := by rw [hL, List.length_map]; exact HP1.out.2
  have H5 := Lib.hid (And.intro (gr_call H4.out.1 r5) (And.intro (H4.out.2.2.2.2.1.below r5) (And.intro (H4.out.2.2.2.2.2.below r5) r4)))
  have hl : L1.length = L.length := by rw [hL, List.length_map]
  rw [← hL] at H5 hcase
  rw [hl]
  clear hl
  clear H4 HP1 HP2 r1 r2 r3 r4 r5 hEE
  have hsi := fun (X : World) (hx : Cells X A1 1 L.length (intsAt L)) (hy : Cells X A2 1 L.length (intsAt L)) => sameInts L L A1 A2 c1 c2 (by omega) (by omega) X hx hy
  rw [decide_eq_true rfl] at hsi
  have HS := Lib.hid hsi
  clear hsi hL
  rcases hcase with ⟨rfl, rfl, hl1⟩ | ⟨rfl, hE, hasc⟩
  · clear hl1
    go_wp2_with (fail)
    refine (HS.out _ H5.out.2.1 H5.out.2.2.1).mono ?_
    rintro e W6 ⟨rfl, h6⟩
    have H6 := Lib.hid (gr_call H5.out.1 h6)
    clear h6
    have hqb : ((q : Int) != (q : Int)) = false := by simp
    go_wp2_with (fail)
    refine (awake _ (HA.out.2.2.1.below H6.out (Nat.le_refl _))).mono ?_
    rintro e W7 ⟨rfl, h7⟩
    have H7 := Lib.hid (gr_call H6.out h7)
    clear h7
    go_wp2_with (fail)
    go_ret
    exact ⟨rfl, H7.out⟩
  · have HE := Lib.hid (And.intro hE hasc)
    clear hE hasc
    go_wp2_with (fail)
    refine (HS.out _ H5.out.2.1 H5.out.2.2.1).mono ?_
    rintro e W6 ⟨rfl, h6⟩
    have H6 := Lib.hid (And.intro (gr_call H5.out.1 h6) (And.intro (H5.out.2.1.below h6) (H5.out.2.2.2.below h6)))
    clear h6 H5
    have hqb : ((q : Int) != (q : Int)) = false := by simp
    go_wp2_with (fail)
    clear hqb
    obtain ⟨ln, hln⟩ : ∃ ln, ln = L.length := ⟨_, rfl⟩
    have HLN := Lib.hid hln
    go_loopw [17] (fun i wr => LoopRel q w i wr ∧ Below W6.heap.size W6 wr) (fun i _ => q - (intOf i).toNat)
    case atStart => exact ⟨⟨H6.out.1, 0, Nat.zero_le _, rfl⟩, Below.refl _ _⟩
    case round =>
      clear hln
      obtain ⟨⟨hb, k, hk, rfl⟩, hb6⟩ := hrel
      have HR := Lib.hid (And.intro hb hb6)
      clear hb hb6
      by_cases hlt : k < q
      · have hEk := HE.out.1 k
        have cE := cell_bool_at (H6.out.2.2.below HR.out.2) hlt
        rw [Nat.zero_add, hEk] at cE
        clear hEk
        generalize hx : decide ((k : Int) ∈ L) = x at cE
        have HX := Lib.hid hx
        clear hx
        have hkk := fun N => khas L (k : Int) A1 c1 (by omega) (wr.drewN N) ((H6.out.2.1.below HR.out.2).below (below_drewN (Below.refl _ _) N))
        simp only [HX.out] at hkk
        have HK := Lib.hid hkk
        clear hkk
        have hxx : (x != x) = false := by simp
        have hz6 : (k : Int) < (q : Int) := by omega
        go_wp2_with (fail)
        go_quiet ((go_at_call 38; exact Calls.quiet_of_same (HK.out _)))
        go_wp2_with (fail)
        exact ⟨⟨⟨below_drewN HR.out.1 _, k + 1, by omega, by go_num⟩, below_drewN HR.out.2 _⟩, by simp [intOf]; omega⟩
      · obtain rfl : k = q := by omega
        go_wp2_with (fail)
        go_loopw [18] (fun i wr => (Below w.heap.size w wr ∧ ∃ j : Nat, 1 ≤ j ∧ j ≤ max 1 L.length ∧ i = .int .i64 (j : Int)) ∧ Below W6.heap.size W6 wr) (fun i _ => L.length - (intOf i).toNat)
        case atStart => exact ⟨⟨HR.out.1, 1, Nat.le_refl _, by omega, rfl⟩, HR.out.2⟩
        case round =>
          obtain ⟨⟨hb, j, hj1, hj, rfl⟩, hb6⟩ := hrel
          have HR2 := Lib.hid (And.intro hb hb6)
          clear hb hb6
          by_cases hlt2 : j < L.length
          · obtain ⟨i, rfl⟩ : ∃ i, j = i + 1 := ⟨j - 1, by omega⟩
            obtain ⟨ab, ao, rfl, had, hcl⟩ := (H6.out.2.1.below HR2.out.2) (by omega)
            have hcc : Cells _ (some ⟨ab, ao, none⟩) 1 L.length (intsAt L) := fun _ => ⟨ab, ao, rfl, had, hcl⟩
            have c0 := cell_int_at hcc (show i < L.length by omega)
            have c1 := cell_int_at hcc hlt2
            have hlt3 := HE.out.2 i hlt2
            clear hcl hcc
            generalize L.getD i 0 = x at c0 hlt3
            generalize L.getD (i + 1) 0 = y at c1 hlt3
            have hxy : ¬ (y ≤ x) := by omega
            have hz1 : (0 : Int) < (i : Int) + 1 := by omega
            have hz2 : (i : Int) + 1 < (L.length : Int) := by omega
            have hz3 : (0 : Int) ≤ (i : Int) + 1 := by omega
            have hz5 : (0 : Int) ≤ (i : Int) := by omega
            have hz6 : (i : Int) < (L.length : Int) := by omega
            have hz4 : ((i : Int) + 1).toNat = i + 1 := by omega
            have hz7 : IntKind.i64.wrap (i : Int) = (i : Int) := IntWalk.i64_in _ (by omega)
            go_wp2_with (fail)
            go_quiet (fail)
            go_wp2_with (fail)
            exact ⟨⟨⟨below_drewN HR2.out.1 _, i + 2, by omega, by omega, by go_num⟩, below_drewN HR2.out.2 _⟩, by simp [intOf]; omega⟩
          · have hge : ¬ ((j : Int) < (L.length : Int)) := by omega
            go_wp2_with (fail)
            refine (awake _ (HA.out.2.2.1.below HR2.out.1 (Nat.le_refl _))).mono ?_
            rintro e W8 ⟨rfl, h8⟩
            have H8 := Lib.hid (gr_call HR2.out.1 h8)
            clear h8
            go_wp2_with (fail)
            go_ret
            exact ⟨rfl, H8.out⟩
end Go.Proofs.YtjkmkpehnnkpiaaDoor
