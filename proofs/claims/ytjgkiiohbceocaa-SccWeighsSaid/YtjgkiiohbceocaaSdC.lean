/-
  The reference's Levels, walked; conditions: at most 1000000 edges.
-/
import Derived.Test.YtjgkiiohbceocaaSdB
namespace Go.Proofs.Ytjgkiiohbceocaa
open Go.RowKit
set_option linter.unusedVariables false
set_option linter.unusedSimpArgs false

theorem nats_blk {W : World} {g m : Nat} {f : Nat → Nat} (h : Blk W g 3 (numC m f)) : NatsAt W (.slice (some ⟨g, 0, none⟩) m m) ((List.range m).map f) := by
  refine ⟨some ⟨g, 0, none⟩, m, by simp, fun _ => ⟨g, 0, rfl, h.lt, fun j x hj => ?_⟩⟩
  have hjm : j < m := by
    have := (List.getElem?_eq_some_iff.1 hj).1
    simpa using this
  rw [List.getElem?_map, List.getElem?_range hjm] at hj
  simp only [Option.map_some, Option.some.injEq] at hj
  rw [Nat.zero_add]
  have := h.cell' (vecC_at (fun k => .int .i64 ((f k : Nat) : Int)) hjm)
  rw [hj] at this
  exact this
/-- What is written of the levels so far. -/
def oF (lev p : Nat → Nat) (c : List Nat) (i j x : Nat) : Nat := if p x < i ∨ (p x = i ∧ x ∈ c.take j) then lev (p x) else 0
theorem oF_set {lev p : Nat → Nat} {c : List Nat} {i j x : Nat} (hx : c[j]? = some x) (hp : p x = i) : oF lev p c i (j + 1) x = lev i := by
  unfold oF
  rw [if_pos (.inr ⟨hp, by rw [List.take_add_one, hx]; simp⟩), hp]
theorem oF_far {lev p : Nat → Nat} {c : List Nat} {i j x k : Nat} (hx : c[j]? = some x) (hk : k ≠ x) : oF lev p c i (j + 1) k = oF lev p c i j k := by
  unfold oF
  rw [List.take_add_one, hx]
  have e : (k ∈ c.take j ++ (some x).toList) ↔ k ∈ c.take j := by simp [hk]
  simp only [e]
theorem oF_start (lev p : Nat → Nat) (c d : List Nat) (i x : Nat) : oF lev p c i 0 x = oF lev p d i 0 x := by
  unfold oF; simp
theorem oF_row {lev p : Nat → Nat} {c d : List Nat} {i x : Nat} (h : p x = i → x ∈ c) : oF lev p c i c.length x = oF lev p d (i + 1) 0 x := by
  unfold oF
  rw [List.take_length, List.take_zero]
  by_cases h1 : p x < i
  · rw [if_pos (.inl h1), if_pos (.inl (by omega))]
  · by_cases h2 : p x = i
    · rw [if_pos (.inr ⟨h2, h h2⟩), if_pos (.inl (by omega))]
    · rw [if_neg (by rintro (h3 | h3) <;> omega), if_neg (by rintro (h3 | ⟨h3, h4⟩); · omega
                                                             · cases h4)]
theorem oF_end {lev p : Nat → Nat} {c : List Nat} {i x : Nat} (h : p x < i) : oF lev p c i 0 x = lev (p x) := by
  unfold oF; rw [if_pos (.inl h)]
theorem partI_mem {n : Nat} {T : Nat → Nat → Bool} (ht : Trans' T) {i x : Nat} {c : List Nat} (hc : (partsV n T)[i]? = some c) (hx : x < n) : partI n T x = i ↔ x ∈ c := by
  obtain ⟨r, hr, rfl⟩ := partsV_at hc
  constructor
  · intro h
    obtain ⟨s, h1, h2, h3⟩ := root_of ht x
    obtain ⟨k, hk⟩ := List.mem_iff_getElem?.1 ((partsR_mem (n := n) ht).2 ⟨by omega, h2⟩)
    have := partI_at ht hk h3
    rw [h] at this
    subst this
    rw [hr] at hk
    cases hk
    exact mem_mem.2 ⟨hx, h3⟩
  · intro h
    exact partI_at ht hr (mem_mem.1 h).2
theorem mxF_take {h : Nat → Nat} {i a0 k : Nat} {L : List (Nat × Nat)} {x : Nat × Nat} (hx : L[k]? = some x) : mxF h i a0 (L.take (k + 1)) = if x.1 = i then max (mxF h i a0 (L.take k)) (h x.2) else mxF h i a0 (L.take k) := by
  rw [List.take_add_one, hx]
  exact mxF_snoc h i a0 (L.take k) x
theorem mxF_le {h : Nat → Nat} {i B : Nat} : ∀ {L : List (Nat × Nat)} {a0 : Nat}, a0 ≤ B → (∀ x ∈ L, h x.2 ≤ B) → mxF h i a0 L ≤ B
  | [], _, h0, _ => h0
  | x :: L, a0, h0, hL => by
    show mxF h i (if x.1 = i then max a0 (h x.2) else a0) L ≤ B
    refine mxF_le ?_ (fun y hy => hL y (by simp [hy]))
    split
    · exact Nat.max_le.2 ⟨h0, hL x (by simp)⟩
    · exact h0

set_option maxRecDepth 100000 in
set_option maxHeartbeats 8000000 in
theorem levels_ref (n : Int) (l : List Edg) (hl : l.length ≤ 1000000) (A : Option Addr) (c : Nat) (w : World) (hA : Cells w A 2 l.length (edAt l)) :
    Calls Try.prog 32 #[.agg #[.int .i64 n, .slice A l.length c]] w fun e w' => ∃ v, e = .returned (.tuple #[v, .int .i64 (chkG n l).1]) ∧ NatsAt w' v (vLevels n l) ∧ Below w.heap.size w w' := by
  have b0 := gr_alloc (Below.refl w.heap.size w) (.cells #[.int .i64 n, .slice A l.length c] 24)
  have k0 := Blk.new w 24 #[.int .i64 n, .slice A l.length c]
  have hA0 := hA.below b0
  have hco := condense_ref n l hl A c _ hA0
  by_cases he : (chkG n l).1 = 0
  · have hVL : vLevels n l = levelsV n l := by unfold vLevels; rw [if_pos he]
    have hN : vCondN n l = ((pV n l).length : Int) := by unfold vCondN; rw [if_pos he]
    have hC : vCond n l = (condV n l).map conE := by unfold vCond; rw [if_pos he]
    obtain ⟨m, rfl, hm, hv, hw, ht⟩ := ok_nat he
    have hR : rR (m : Int) l = rea m (relE l) := by unfold rR; rw [Int.toNat_natCast]
    have hP : pV (m : Int) l = partsV m (rea m (relE l)) := by unfold pV; rw [hR, Int.toNat_natCast]
    have hV : condV (m : Int) l = condL (partsV m (rea m (relE l))).length (edgP (relE l) (partsV m (rea m (relE l)))) := by unfold condV; rw [hP]
    have hLv : levelsV (m : Int) l = (List.range m).map (fun k => levF (partsV m (rea m (relE l))).length (edgP (relE l) (partsV m (rea m (relE l)))) (partI m (rea m (relE l)) k)) := by unfold levelsV; rw [hP, hR, Int.toNat_natCast]
    have hre := fun W hW => reaches_ref m hm l hl hv A c W hW
    rw [hN, hC, hP, hV, he] at hco
    rw [he, hVL, hLv]
    have hpw := parts_what ht hm
    have htopo : ∀ i k, k ≤ i → k ≠ i → edgP (relE l) (partsV m (rea m (relE l))) i k = false := by
      intro i k h1 h2
      cases e : edgP (relE l) (partsV m (rea m (relE l))) i k with
      | false => rfl
      | true => have := edgP_topo hw (fun h => h2 h.symm) e; omega
    have hmemI := fun i x cc hc hx => partI_mem (n := m) (T := rea m (relE l)) ht (i := i) (x := x) (c := cc) hc hx
    have hpI : ∀ k, k < m → partI m (rea m (relE l)) k < (partsV m (rea m (relE l))).length := by
      intro k hk
      have := partI_lt ht hk
      unfold partsV
      rw [List.length_map]
      exact this
    obtain ⟨ct, hct⟩ : ∃ ct, ct = tabC (rea m (relE l)) := ⟨_, rfl⟩
    have hpa := fun ev W => partsR_ref m hm (rea m (relE l)) ht ev W
    rw [← hct] at hre hpa
    obtain ⟨pI, hpIe⟩ : ∃ p, p = partI m (rea m (relE l)) := ⟨_, rfl⟩
    rw [← hpIe] at hmemI hpI ⊢
    have hlt : ∀ (i : Nat) (cc : List Nat) (x : Nat), (partsV m (rea m (relE l)))[i]? = some cc → x ∈ cc → x < m := by
      intro i cc x hc hx
      obtain ⟨r, hr, rfl⟩ := partsV_at hc
      exact (mem_mem.1 hx).1
    obtain ⟨ls, hls⟩ : ∃ ls, ls = partsV m (rea m (relE l)) := ⟨_, rfl⟩
    rw [← hls] at hco hpw htopo hpa hmemI hpI hlt ⊢
    obtain ⟨e, hee⟩ : ∃ e, e = edgP (relE l) ls := ⟨_, rfl⟩
    rw [← hee] at hco htopo ⊢
    obtain ⟨np, hnp⟩ : ∃ np, np = ls.length := ⟨_, rfl⟩
    rw [← hnp] at hco hpI ⊢
    have hnp64 : np ≤ 64 := by rw [hnp]; exact hpw.1
    obtain ⟨L, hL⟩ : ∃ L, L = condL np e := ⟨_, rfl⟩
    rw [← hL] at hco
    obtain ⟨lE, hlE⟩ : ∃ x, x = (L.map conE).length := ⟨_, rfl⟩
    have hlE2 : lE = L.length := by rw [hlE, List.length_map]
    have hLlen : L.length ≤ 4096 := by rw [hL]; exact Nat.le_trans (condL_len _ _) (Nat.le_trans (Nat.mul_le_mul hnp64 hnp64) (by decide))
    obtain ⟨ln, hln⟩ : ∃ ln, ln = l.length := ⟨_, rfl⟩
    rw [← hln] at hco
    rw [← hln] at hre hA0 b0 k0 ⊢
    have hmk := fun W => mk_vec (t := 25) (z := .int .i64 0) Try.underlying25 infoInt rfl (by decide) np (by omega) W
    have hmk2 := fun W => mk_vec (t := 25) (z := .int .i64 0) Try.underlying25 infoInt rfl (by decide) m (by omega) W
    have H := Lib.hid (And.intro b0 (And.intro k0 (And.intro hA0 (And.intro hco (And.intro hre hpa)))))
    have M := Lib.hid (And.intro hnp (And.intro hpw (And.intro htopo (And.intro hmemI (And.intro hpI (And.intro hL (And.intro hlE2 (And.intro hLlen hlt))))))))
    clear hlt b0 k0 hA0 hA hco hre hpa hct hln he hl hv hpw hR hP hw ht hN hC hV hnp hls hVL hLv htopo hmemI hpI hee hL hlE2 hLlen hlE hpIe
    go_enter Try.func32, Try.ntmps32
    go_wp2_with (fail)
    refine H.out.2.2.2.1.mono ?_
    rintro e0 W1 ⟨vE, rfl, hE, h1⟩
    obtain ⟨eA, ec, rfl, hcl⟩ := hE
    have hlm : (L.map conE).length = L.length := List.length_map _
    rw [hlm] at hcl ⊢
    clear hlm
    obtain ⟨nL, hnL⟩ : ∃ x, x = L.length := ⟨_, rfl⟩
    rw [← hnL] at hcl ⊢
    have kk := (H.out.2.1.call h1).alloc (.cells #[.int .i64 (np : Int), .slice eA nL ec] 24)
    have kC := Blk.new W1 24 #[.int .i64 (np : Int), .slice eA nL ec]
    have bC := gr_alloc (gr_call H.out.1 h1) (.cells #[.int .i64 (np : Int), .slice eA nL ec] 24)
    have r0 := kk.cell' (i := 0) rfl
    have r1 := kk.cell' (i := 1) rfl
    have rl := kk.lt
    have hre1 := H.out.2.2.2.2.1 (W1.alloc (.cells #[.int .i64 (np : Int), .slice eA nL ec] 24)).drew (H.out.2.2.1.below (gr_drew (gr_alloc h1 (.cells #[.int .i64 (np : Int), .slice eA nL ec] 24))))
    have D := Lib.hid (And.intro bC (And.intro (hcl.below (gr_alloc (Below.refl W1.heap.size W1) (.cells #[.int .i64 (np : Int), .slice eA nL ec] 24))) (And.intro kk (And.intro kC hnL))))
    clear h1 kk hcl bC kC hnL
    go_wp2_with (fail)
    obtain ⟨X1, hX1⟩ : ∃ X1, W1.alloc (.cells #[.int .i64 (np : Int), .slice eA nL ec] 24) = X1 := ⟨_, rfl⟩
    have hWX : W1.heap.size < X1.heap.size := by rw [← hX1]; simp
    rw [hX1] at r0 r1 rl hre1 D ⊢
    clear hX1
    go_region_held_law (fun w' => w'.cell? ⟨w.heap.size, 0, none⟩ = some (.int .i64 (m : Int)) ∧ w'.cell? ⟨w.heap.size, 1, none⟩ = some (.slice A ln c))
      (first
        | ((try simp only [World.cell?_drew]); (refine ⟨?_, ?_⟩ <;> assumption))
        | exact ⟨(h2.cell (p := ⟨w.heap.size, 0, none⟩) rl).trans r0, (h2.cell (p := ⟨w.heap.size, 1, none⟩) rl).trans r1⟩
        | exact ⟨(h3.cell (p := ⟨w.heap.size, 0, none⟩) rl3).trans s0, (h3.cell (p := ⟨w.heap.size, 1, none⟩) rl3).trans s1⟩)
      ((first
        | (go_at_call 45; refine hre1.mono ?_; rintro e w2 ⟨rfl, h2⟩; have s0 := (h2.cell (p := ⟨w.heap.size, 0, none⟩) rl).trans r0; have s1 := (h2.cell (p := ⟨w.heap.size, 1, none⟩) rl).trans r1; have rl3 : w.heap.size < w2.heap.size := Nat.lt_of_lt_of_le rl h2.size)
        | (go_at_call 55; refine (H.out.2.2.2.2.2 _ _).mono ?_; rintro e w3 ⟨v, rfl, h4, h3⟩)))
    rename_i hHeld
    have hx3 : Below X1.heap.size X1 w3 := gr_call (gr_call (gr_drew (Below.refl _ _)) h2) h3
    obtain ⟨pA, pc, rfl, hex⟩ := h4.at_.ex
    rw [← M.out.1]
    have kC := D.out.2.2.2.1.call hx3
    have kA := D.out.2.2.1.call hx3
    have c0 := kC.cell' (i := 0) rfl
    have lc := kC.lt
    have a0 := kA.cell' (i := 0) rfl
    have la := kA.lt
    have kL := Blk.new w3 3 (numC np fun _ => 0)
    have hbL := gr_alloc (Below.refl w3.heap.size w3) (.cells (numC np fun _ => 0) 3)
    have hmk1 := hmk w3
    have c0b := (kC.call hbL).cell' (i := 0) rfl
    have lcb := (kC.call hbL).lt
    have N := Lib.hid (And.intro (gr_call D.out.1 hx3) (And.intro (D.out.2.1.below hx3) (And.intro kA (And.intro kC (And.intro hex (And.intro kL hbL))))))
    clear h2 h3 h4 hx3 hHeld s0 s1 r0 r1 rl rl3 hre1 kC kA kL hbL hex hWX hmk
    have w1 : IntKind.i64.wrap ((np : Int) - 1) = (np : Int) - 1 := IntWalk.i64_in _ (by omega)
    go_wp2_with (fail)
    go_loopg [8] np (fun q iv wr => ∃ j : Nat, q = np - j ∧ j ≤ np ∧ iv = .int .i64 ((np : Int) - 1 - (j : Int)) ∧ Below w3.heap.size w3 wr ∧ Blk wr w3.heap.size 3 (numC np (levS np e j)))
    case atStart => exact ⟨0, rfl, Nat.zero_le _, by simp, N.out.2.2.2.2.2.2, N.out.2.2.2.2.2.1⟩
    case round =>
      obtain ⟨j, hq, hj, rfl, hbel, hlv⟩ := hrel
      by_cases hjn : j < np
      · obtain ⟨i, hi⟩ : ∃ i : Nat, i = np - 1 - j := ⟨_, rfl⟩
        have hin : i < np := by omega
        have hiI : (np : Int) - 1 - (j : Int) = (i : Int) := by omega
        rw [hiI]
        have hi0 : (0 : Int) ≤ (i : Int) := by omega
        have hi' : (i : Int) < (np : Int) := by omega
        have wi : IntKind.i64.wrap ((i : Int) - 1) = (i : Int) - 1 := IntWalk.i64_in _ (by omega)
        have B := Lib.hid (And.intro hq (And.intro hiI (And.intro hbel (And.intro hlv hi))))
        clear hq hiI hbel hlv hi c0 lc a0 la
        go_wp2_with (fail)
        go_loopg [9] nL (fun q kv wr => ∃ k : Nat, q = nL - k ∧ k ≤ nL ∧ kv = .int .i64 (k : Int) ∧ Below w3.heap.size w3 wr ∧ Blk wr w3.heap.size 3 (numC np (upd (levS np e j) i (mxF (fun k => levS np e j k + 1) i 0 (L.take k)))))
        case atStart =>
          refine ⟨0, rfl, Nat.zero_le _, by simp, B.out.2.2.1, ?_⟩
          rw [numC_congr (f := upd (levS np e j) i (mxF (fun k => levS np e j k + 1) i 0 (L.take 0))) (g := levS np e j) (fun k _ => by
            by_cases hk : k = i
            · subst hk; rw [upd_same, levS_zero (by have := B.out.2.2.2.2; omega)]; rfl
            · rw [upd_other _ _ hk])]
          exact B.out.2.2.2.1
        case round =>
          obtain ⟨k, hq, hk, rfl, hbel, hlv⟩ := hrel
          have kC := N.out.2.2.2.1.call hbel
          have q1 := kC.cell' (i := 1) rfl
          have lq := kC.lt
          have hnl : nL ≤ 4096 := by have := D.out.2.2.2.2; have := M.out.2.2.2.2.2.2.2.1; omega
          have wk : IntKind.i64.wrap ((k : Int) + 1) = ((k + 1 : Nat) : Int) := (IntWalk.i64_in _ (by omega)).trans (by simp)
          by_cases hkn : k < nL
          · have hk' : (k : Int) < (nL : Int) := by omega
            obtain ⟨⟨a, b⟩, hx⟩ : ∃ x, L[k]? = some x := ⟨_, List.getElem?_eq_getElem (by rw [← D.out.2.2.2.2]; exact hkn)⟩
            have hxm := List.mem_of_getElem? hx
            rw [M.out.2.2.2.2.2.1] at hxm
            obtain ⟨h1, h2, h3, h4⟩ := mem_condTo.1 hxm
            have hst := mxF_take (h := fun k => levS np e j k + 1) (i := i) (a0 := 0) hx
            have hEc : Cells wr eA 2 (L.map conE).length (edAt (L.map conE)) := by
              rw [List.length_map, ← D.out.2.2.2.2]; exact N.out.2.1.below hbel
            obtain ⟨ab, ao, rfl, hab, ca, cb⟩ := cells_edg hEc (k := k) (p := conE (a, b)) (by rw [List.getElem?_map, hx]; rfl)
            replace ca : wr.cell? ⟨ab, ao + k * 2, none⟩ = some (.int .i64 (a : Int)) := ca
            replace cb : wr.cell? ⟨ab, ao + k * 2 + 1, none⟩ = some (.int .i64 (b : Int)) := cb
            by_cases hai : a = i
            · have hae : ((a : Int) == (i : Int)) = true := by simp; omega
              have hbi : b ≠ i := by simp only at h3; omega
              have hbn : b < np := h2
              rw [if_pos hai] at hst
              have ci := hlv.cell' (vecC_at (fun k' => .int .i64 ((upd (levS np e j) i (mxF (fun k => levS np e j k + 1) i 0 (L.take k)) k' : Nat) : Int)) hin)
              have ck := hlv.cell' (vecC_at (fun k' => .int .i64 ((upd (levS np e j) i (mxF (fun k => levS np e j k + 1) i 0 (L.take k)) k' : Nat) : Int)) hbn)
              rw [upd_same] at ci
              rw [upd_other _ _ hbi] at ck
              have hb1 : mxF (fun k => levS np e j k + 1) i 0 (L.take k) ≤ 65 := Nat.le_trans (mxF_le (B := j + 1) (Nat.zero_le _) (fun x _ => Nat.succ_le_succ (levS_le _ _ j _))) (by omega)
              have hb2 : levS np e j b ≤ 64 := Nat.le_trans (levS_le _ _ j b) (by omega)
              have fi := hlv.frozen i
              have ll := hlv.lt
              obtain ⟨x, hxx⟩ : ∃ x, x = mxF (fun k => levS np e j k + 1) i 0 (L.take k) := ⟨_, rfl⟩
              obtain ⟨y, hyy⟩ : ∃ y, y = levS np e j b := ⟨_, rfl⟩
              simp only at hst
              rw [← hxx] at ci hb1 hst
              rw [← hyy] at ck hb2 hst
              have hx64 : (x : Int) ≤ 65 := by omega
              have hy64 : (y : Int) ≤ 64 := by omega
              have hb' : (b : Int) < (np : Int) := by omega
              have F := Lib.hid (And.intro hst (And.intro hbel (And.intro hlv (And.intro hq (And.intro hkn hxx)))))
              clear hst hbel hlv hq kC hx hxm h1 h2 h3 h4 hEc hai hbi hxx hyy hb1 hb2
              go_wp2_with (fail)
              go_region
              go_wp2_with (fail)
              go_roundg (nL - (k + 1))
              case measure => have := F.out.2.2.2.1; omega
              case rel =>
                have ho : max (x : Int) ((y : Int) + 1) = ((max x (y + 1) : Nat) : Int) := by omega
                rw [ho]
                have hb := gr_set F.out.2.1 (p := ⟨w3.heap.size, i, none⟩) (Nat.le_refl _) (.int .i64 ((max x (y + 1) : Nat) : Int))
                refine ⟨k + 1, rfl, hkn, by simp, ⟨hb.os, hb.tape, hb.output, hb.size, hb.block⟩, ?_⟩
                rw [F.out.1, ← numC_set (f := upd (levS np e j) i x) (g := upd (levS np e j) i (max x (y + 1))) hin (upd_same _ _ _) (fun k' _ hk' => by rw [upd_other _ _ hk', upd_other _ _ hk'])]
                have h9 := F.out.2.2.1.set_ i (.int .i64 ((max x (y + 1) : Nat) : Int))
                rw [← F.out.2.2.2.2.2] at h9
                exact h9
            · have hae : ((a : Int) == (i : Int)) = false := by simp; omega
              rw [if_neg hai] at hst
              have F := Lib.hid (And.intro hst (And.intro hbel (And.intro hlv hq)))
              clear hst hbel hlv hq kC hx hxm h1 h2 h3 h4 hEc hai
              go_wp2_with (fail)
              go_roundg (nL - (k + 1))
              case measure => have := F.out.2.2.2; omega
              case rel =>
                refine ⟨k + 1, rfl, hkn, by simp, F.out.2.1, ?_⟩
                rw [F.out.1]
                exact F.out.2.2.1
          · have hkl : k = nL := by omega
            subst k
            have F := Lib.hid (And.intro hbel (And.intro hlv hq))
            clear hbel hlv hq kC
            go_wp2_with (fail)
            go_roundg (np - (j + 1))
            case measure => have := B.out.1; omega
            case rel =>
              refine ⟨j + 1, rfl, hjn, by have := B.out.2.1; simp; omega, F.out.1, ?_⟩
              have h9 := F.out.2.1
              rw [D.out.2.2.2.2, List.take_length, M.out.2.2.2.2.2.1, mxF_all _ 0 hin (fun k h1 h2 => M.out.2.2.1 i k h1 h2), show np - (i + 1) = j by have := B.out.2.2.2.2; omega] at h9
              have h10 := B.out.2.2.2.2
              subst h10
              exact h9
      · have ej : j = np := by omega
        subst j
        rename World => W3
        have hneg : ((np : Int) - 1 - (np : Int)) = -1 := by omega
        rw [hneg]
        have kA := N.out.2.2.1.call hbel
        have a0' := kA.cell' (i := 0) rfl
        have la' := kA.lt
        have kO := Blk.new W3 3 (numC m fun _ => 0)
        have hbO := gr_alloc (Below.refl W3.heap.size W3) (.cells (numC m fun _ => 0) 3)
        have hmk3 := hmk2 W3
        have B := Lib.hid (And.intro hbel (And.intro hlv (And.intro kO hbO)))
        clear hbel hlv kO hbO kA hq hjn hmk2 hmk1 c0b lcb a0 la c0 lc
        go_wp2_with (fail)
        go_loopg [11] np (fun q iv wr => ∃ i : Nat, q = np - i ∧ i ≤ np ∧ iv = .int .i64 (i : Int) ∧ Below W3.heap.size W3 wr ∧ Blk wr W3.heap.size 3 (numC m (oF (levF np e) pI [] i 0)))
        case atStart =>
          refine ⟨0, rfl, Nat.zero_le _, rfl, B.out.2.2.2, ?_⟩
          rw [numC_congr (f := oF (levF np e) pI [] 0 0) (g := fun _ => 0) (fun k _ => by unfold oF; simp)]
          exact B.out.2.2.1
        case round =>
          obtain ⟨i, hq, hi, rfl, hbel, hot⟩ := hrel
          by_cases hin : i < np
          · have hi' : (i : Int) < (np : Int) := by omega
            obtain ⟨cc, hcc⟩ : ∃ x, ls[i]? = some x := ⟨_, List.getElem?_eq_getElem (by rw [← M.out.1]; exact hin)⟩
            obtain ⟨g, hg, hgl, hcells⟩ := N.out.2.2.2.2.1 (fun e => by rw [e] at hcc; simp at hcc)
            obtain ⟨u, hcu, hu⟩ := hcells i cc hcc
            obtain ⟨ua, uc, hue, huc⟩ := hu.ex
            obtain ⟨nu, hnu⟩ : ∃ x, x = cc.length := ⟨_, rfl⟩
            rw [← hnu] at hue
            subst hue
            have hnu64 : nu ≤ 64 := by rw [hnu]; exact (M.out.2.1.2 cc (List.mem_of_getElem? hcc)).2.1
            have B2 := Lib.hid (And.intro hq (And.intro hbel (And.intro hot (And.intro hcc (And.intro hcu (And.intro huc (And.intro hnu (And.intro hg hgl))))))))
            clear hq hbel hot hcc hcells hcu huc hu hnu hgl hg
            rename World => wo
            go_wp2_with (fail)
            go_loopg [12] nu (fun q kv wr => ∃ k : Nat, q = nu - k ∧ k ≤ nu ∧ kv = .int .i64 (k : Int) ∧ Below W3.heap.size W3 wr ∧ Blk wr W3.heap.size 3 (numC m (oF (levF np e) pI cc i k)))
            case atStart =>
              refine ⟨0, rfl, Nat.zero_le _, rfl, B2.out.2.1, ?_⟩
              rw [numC_congr (f := oF (levF np e) pI cc i 0) (g := oF (levF np e) pI [] i 0) (fun k _ => oF_start _ _ _ _ _ _)]
              exact B2.out.2.2.1
            case round =>
              obtain ⟨k, hq, hk, rfl, hbel, hot⟩ := hrel
              have h3w : Below w3.heap.size w3 wr := gr_call B.out.1 hbel
              have hg := B2.out.2.2.2.2.2.2.2.1
              have cu := (h3w.cell (p := ⟨g, i, none⟩) B2.out.2.2.2.2.2.2.2.2).trans B2.out.2.2.2.2.1
              have gl := Nat.lt_of_lt_of_le B2.out.2.2.2.2.2.2.2.2 h3w.size
              subst hg
              by_cases hkn : k < nu
              · have hk' : (k : Int) < (nu : Int) := by omega
                obtain ⟨x, hx⟩ : ∃ x, cc[k]? = some x := ⟨_, List.getElem?_eq_getElem (by rw [← B2.out.2.2.2.2.2.2.1]; exact hkn)⟩
                obtain ⟨ub, uo, hue, hul, hucc⟩ := B2.out.2.2.2.2.2.1 (fun e => by rw [e] at hx; simp at hx)
                have cx := (h3w.cell (p := ⟨ub, uo + k, none⟩) hul).trans (hucc k x hx)
                have ul := Nat.lt_of_lt_of_le hul h3w.size
                have hxm := M.out.2.2.2.2.2.2.2.2 i cc x B2.out.2.2.2.1 (List.mem_of_getElem? hx)
                have hpx : pI x = i := (M.out.2.2.2.1 i x cc B2.out.2.2.2.1 hxm).2 (List.mem_of_getElem? hx)
                have e1 := oF_set (lev := levF np e) (p := pI) (c := cc) hx hpx
                have e2 := fun k' hk' => oF_far (lev := levF np e) (p := pI) (c := cc) (i := i) (j := k) (k := k') hx hk'
                have ci := (B.out.2.1.call hbel).cell' (vecC_at (fun k' => .int .i64 ((levS np e np k' : Nat) : Int)) hin)
                have li := (B.out.2.1.call hbel).lt
                have cxx := hot.cell' (vecC_at (fun k' => .int .i64 ((oF (levF np e) pI cc i k k' : Nat) : Int)) hxm)
                have fx := hot.frozen x
                have lx := hot.lt
                have e1 : oF (levF np e) pI cc i (k + 1) x = levS np e np i := e1
                obtain ⟨y, hy⟩ : ∃ y, y = levS np e np i := ⟨_, rfl⟩
                obtain ⟨z, hz⟩ : ∃ z, z = oF (levF np e) pI cc i k x := ⟨_, rfl⟩
                rw [← hy] at ci e1
                rw [← hz] at cxx
                subst hue
                have hxm' : (x : Int) < (m : Int) := by omega
                have F := Lib.hid (And.intro e1 (And.intro e2 (And.intro hbel (And.intro hot (And.intro hq (And.intro hkn hxm))))))
                clear e1 e2 hbel hot hq hx hul hucc hpx hy hz h3w
                go_wp2_with (fail)
                go_region
                go_wp2_with (fail)
                go_roundg (nu - (k + 1))
                case measure => have := F.out.2.2.2.2.1; omega
                case rel =>
                  have hb := gr_set F.out.2.2.1 (p := ⟨W3.heap.size, x, none⟩) (Nat.le_refl _) (.int .i64 (y : Int))
                  refine ⟨k + 1, rfl, hkn, by simp, ⟨hb.os, hb.tape, hb.output, hb.size, hb.block⟩, ?_⟩
                  rw [← numC_set (f := oF (levF np e) pI cc i k) (g := oF (levF np e) pI cc i (k + 1)) F.out.2.2.2.2.2.2 F.out.1 (fun k' _ hk' => F.out.2.1 k' hk')]
                  exact F.out.2.2.2.1.set_ x (.int .i64 (y : Int))
              · have ek : k = nu := by omega
                subst k
                have F := Lib.hid (And.intro hbel (And.intro hot hq))
                clear hbel hot hq h3w
                go_wp2_with (fail)
                go_roundg (np - (i + 1))
                case measure => have := B2.out.1; omega
                case rel =>
                  refine ⟨i + 1, rfl, hin, by simp, F.out.1, ?_⟩
                  have h9 := F.out.2.1
                  rw [B2.out.2.2.2.2.2.2.1, numC_congr (f := oF (levF np e) pI cc i cc.length) (g := oF (levF np e) pI [] (i + 1) 0) (fun x hx => (oF_row (fun h => (M.out.2.2.2.1 i x cc B2.out.2.2.2.1 hx).1 h)).symm)] at h9
                  exact h9
          · have ei : i = np := by omega
            subst i
            have F := Lib.hid (And.intro hbel hot)
            clear hbel hot hq hin
            go_wp2_with (fail)
            go_ret2
            have h9 := F.out.2
            rw [numC_congr (f := oF (levF np e) pI [] np 0) (g := fun k => levF np e (pI k)) (fun x hx => (oF_end (M.out.2.2.2.2.1 x hx)).symm)] at h9
            exact ⟨_, rfl, nats_blk h9, gr_call (gr_call N.out.1 B.out.1) F.out.1⟩
  · have hV : vLevels n l = [] := by unfold vLevels; rw [if_neg he]
    rw [hV]
    obtain ⟨E, hE⟩ : ∃ E, E = (chkG n l).1 := ⟨_, rfl⟩
    obtain ⟨ln, hln⟩ : ∃ ln, ln = l.length := ⟨_, rfl⟩
    obtain ⟨N, hN⟩ : ∃ N, N = vCondN n l := ⟨_, rfl⟩
    obtain ⟨C, hC⟩ : ∃ C, C = vCond n l := ⟨_, rfl⟩
    rw [← hE, ← hN, ← hC] at hco
    rw [← hE] at he ⊢
    rw [← hln] at hco b0 ⊢
    have H := Lib.hid (And.intro b0 hco)
    have he' : (E != 0) = true := by simpa using he
    clear b0 k0 hco hA0 hA hE hln hl he hV hN hC
    go_enter Try.func32, Try.ntmps32
    go_wp2_with (fail)
    refine H.out.2.mono ?_
    rintro e W1 ⟨v, rfl, hv, h1⟩
    obtain ⟨A1, c1, rfl, _⟩ := hv
    have D := Lib.hid (gr_alloc (gr_call H.out.1 h1) (.cells #[.int .i64 N, .slice A1 C.length c1] 24))
    clear h1
    go_wp2_with (fail)
    go_ret2
    exact ⟨_, rfl, NatsAt.nil _, D.out⟩
end Go.Proofs.Ytjgkiiohbceocaa
