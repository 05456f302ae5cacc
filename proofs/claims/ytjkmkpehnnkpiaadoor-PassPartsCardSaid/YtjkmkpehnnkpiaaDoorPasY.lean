/-
  Flags and answers made of numbers (made, bools), and waypostkit At, walked: plain functions; condition: none.
-/
import Derived.Test.YtjkmkpehnnkpiaaDoorPasM
import Derived.Test.YtjkmkpehnnkpiaaDoorMod
import Derived.Deep.CutBlock
namespace Go.Proofs.YtjkmkpehnnkpiaaDoor
open Go.RowKit Go.Joins Go.Shelf
set_option linter.unusedVariables false
set_option linter.unusedSimpArgs false

def numAt (G : Nat → Int) : Nat → Nat → Value := fun i _ => .int .i64 (G i)
def NumOk (G : Nat → Int) : Prop := ∀ i, -9223372036854775808 ≤ G i ∧ G i ≤ 9223372036854775807
/-- At: the number, or 0. -/
def atV (G : Nat → Int) (n i : Nat) : Int := if i < n then G i else 0
theorem atV_ok {G : Nat → Int} (h : NumOk G) (n i : Nat) : -9223372036854775808 ≤ atV G n i ∧ atV G n i ≤ 9223372036854775807 := by
  unfold atV
  split
  · exact h i
  · omega

set_option maxRecDepth 100000 in
set_option maxHeartbeats 1000000 in
theorem kat (G : Nat → Int) (A : Option Addr) (n c i : Nat) (hi : i ≤ 1000000) (w : World) (hg : Cells w A 1 n (numAt G)) :
    Calls Tryd.prog 48 #[.slice A n c, .int .i64 (i : Int)] w fun e W' => e = .returned (.int .i64 (atV G n i)) ∧ Below w.heap.size w W' := by
  have hi0 : ¬ ((i : Int) < 0) := by omega
  by_cases hlt : i < n
  · obtain ⟨ab, ao, rfl, had, hcl⟩ := hg (by omega)
    have c0 : w.cell? ⟨ab, ao + i, none⟩ = some (.int .i64 (G i)) := by have h1 := hcl i 0 hlt (by decide); rw [Nat.mul_one, Nat.add_zero] at h1; exact h1
    clear hcl hg
    have e1 : atV G n i = G i := if_pos hlt
    rw [e1]
    have hgei : ¬ ((n : Int) ≤ (i : Int)) := by omega
    clear e1
    generalize G i = x at c0 ⊢
    go_enter Tryd.func48, Tryd.ntmps48
    go_wp2_with (fail)
    go_ret
    exact ⟨rfl, Below.refl _ _⟩
  · have e1 : atV G n i = 0 := if_neg hlt
    have hge : ((n : Int) ≤ (i : Int)) := by omega
    rw [e1]
    clear e1 hg
    go_enter Tryd.func48, Tryd.ntmps48
    go_wp2_with (fail)
    go_ret
    exact ⟨rfl, Below.refl _ _⟩

/-- The answer number i. -/
def ansG (G : Nat → Int) (n i : Nat) : Bool := decide (atV G n i % 2 = 1)
theorem flat_snoc (f : Nat → Nat → Value) (m i : Nat) : flatC f m (i + 1) = flatC f m i ++ (List.range m).map (f i) := by
  unfold flatC
  rw [Nat.add_mul, Nat.one_mul, List.range_add, List.map_append]
  congr 1
  rw [List.map_map]
  apply List.map_congr_left
  intro j hj
  have hj := List.mem_range.1 hj
  show f ((i * m + j) / m) ((i * m + j) % m) = f i j
  have hm : 0 < m := by omega
  have e1 : (i * m + j) / m = i := by rw [Nat.mul_comm, Nat.mul_add_div hm, Nat.div_eq_of_lt hj]; omega
  have e2 : (i * m + j) % m = j := by rw [Nat.mul_comm, Nat.mul_add_mod, Nat.mod_eq_of_lt hj]
  rw [e1, e2]
theorem infoBoolY : (Tryd.prog.info? 4).map (fun i => (i.zero, i.size, i.bytes)) = some (some (.bool false), 1, 1) := by kernel_rfl
theorem snocBool (f : Nat → Bool) (i : Nat) : flatC (boolAt f) 1 i ++ [.bool (f i)] = flatC (boolAt f) 1 (i + 1) := by rw [flat_snoc]; rfl
def BoolsRel (G : Nat → Int) (n : Nat) (w : World) (k : Nat) (v i : Value) (wr : World) : Prop :=
  ∃ j : Nat, j ≤ k ∧ i = .int .i64 (j : Int) ∧ wr.ownsRow w.heap.size 4 1 v j (flatC (boolAt (ansG G n)) 1 j) ∧ Below w.heap.size w wr

theorem own_cap {W : World} {B e m n d k : Nat} {A : Option Addr} {xs : List Value} (h : W.ownsRow B e m (.slice A k d) n xs) : n ≤ d := by
  rcases h.2 with ⟨h1, h0⟩ | ⟨g, cap, cur, h1, hBg, hg, h2, h3, h4, htk⟩
  · omega
  · cases h1; exact h2

set_option maxRecDepth 100000 in
set_option maxHeartbeats 4000000 in
theorem lbools (G : Nat → Int) (hG : NumOk G) (A : Option Addr) (n c k : Nat) (hk : k ≤ 1000000) (w : World) (hg : Cells w A 1 n (numAt G)) :
    Calls Tryd.prog 29 #[.slice A n c, .int .i64 (k : Int)] w fun e W' => ∃ B d, e = .returned (.slice B k d) ∧ Cells W' B 1 k (boolAt (ansG G n)) ∧ ArgOk B k d ∧ Below w.heap.size w W' ∧ (∀ a, B = some a → w.heap.size ≤ a.block ∧ a.block < W'.heap.size) ∧ k ≤ d := by
  obtain ⟨i0, hi, hz0, hz1, hz2⟩ := info_parts infoBoolY
  have H := Lib.hid (And.intro hG hg)
  clear hG hg
  go_enter Tryd.func29, Tryd.ntmps29
  go_wp2_with (fail)
  go_loopw [5, 6] (fun v i wr => BoolsRel G n w k v i wr) (fun _ i _ => k - (intOf i).toNat)
  case atStart => exact ⟨0, Nat.zero_le _, rfl, World.ownsRow_nil _ _ _ _, Below.refl _ _⟩
  case round =>
    obtain ⟨j, hj, rfl, how, hb⟩ := hrel
    have HR := Lib.hid (And.intro how hb)
    obtain ⟨va, vc, rfl⟩ := own_slice how
    clear how hb
    by_cases hlt : j < k
    · go_wp2_with (fail)
      refine (kat G A n c j (by omega) _ (H.out.2.below HR.out.2)).mono ?_
      rintro e W1 ⟨rfl, h1⟩
      have hx := atV_ok H.out.1 n j
      have hans : ansG G n j = decide (atV G n j % 2 = 1) := rfl
      generalize atV G n j = x at hx hans ⊢
      have H1 := Lib.hid (And.intro (gr_call HR.out.2 h1) (And.intro (own_below HR.out.1 h1 (Nat.le_refl _)) hans))
      clear h1 hans
      go_wp2_with (fail)
      refine (kmod x 2 _ hx (by decide)).mono ?_
      rintro e W2 ⟨rfl, h2⟩
      have H2 := Lib.hid (And.intro (gr_call H1.out.1 h2) (own_below H1.out.2.1 h2 (Nat.le_refl _)))
      have hb2 := H1.out.2.2
      have hbe : (x % 2 == 1) = ansG G n j := by rw [hb2]; by_cases h : x % 2 = 1 <;> simp [h]
      clear h2 hb2
      generalize hy : ansG G n j = y at hbe
      have HY := Lib.hid hy
      clear hy
      have how := H2.out.2
      go_wp2_with (at_builtin; refine wpList_append_own _ rfl _ _ 31 rfl w.heap.size 4 i0 (.bool false) 1 1 Tryd.underlying31 hi hz0 hz1 hz2 rfl (by decide) _ _ _ rfl (how.alloc _) ⟨W2.heap.size, 0, none⟩ 1 1 [.bool y] rfl rfl ?c1 ?c2 ?c3 ?c4 ?c5 ?_)
      case c1 => exact one_new rfl _ _
      case c2 =>
        intro u hu
        simp only [List.mem_singleton] at hu
        subst hu
        rfl
      case c3 => unfold maxLen; omega
      case c4 => omega
      case c5 => have := H2.out.1.size; simp; omega
      intro v' w2 hown' hgrow _
      have hz2 : Below w.heap.size w w2 := (gr_alloc H2.out.1 (.cells #[.bool y] 4)).grown hgrow (by have := H2.out.1.size; simp; omega) (fun q hq => (how.lt q hq).1)
      have H3 := Lib.hid (And.intro hz2 (by rw [← HY.out, snocBool] at hown'; exact hown'))
      clear hown' hgrow hz2 how
      go_wp2_with (fail)
      exact ⟨⟨j + 1, by omega, by go_num, H3.out.2, H3.out.1⟩, by simp [intOf]; omega⟩
    · obtain rfl : j = k := by omega
      go_wp2_with (fail)
      go_ret
      obtain ⟨B, d, e1, e2, e3⟩ := row_cells (by decide) HR.out.1
      cases e1
      exact ⟨_, _, rfl, e2, e3, HR.out.2, fun a ha => HR.out.1.lt a.block (by rw [ha]; rfl), own_cap HR.out.1⟩

/-- A rule's flags made of a number. -/
def mkF (nx : Bool) (x : Int) : Flg := ⟨decide (x % 9 = 2), decide (x % 9 = 3) && nx, decide (x % 9 = 0) || decide (x % 9 = 1), decide (x % 9 = 4), false, false, false, false, if x % 9 = 5 then 1 + (x.tdiv 9) % 4 else 0, if x % 9 = 6 then 301 else 0⟩
def mkG (nx : Bool) (G : Nat → Int) : Nat → Flg := fun i => mkF nx (G i)
theorem mkF_of {nx : Bool} {x k : Int} (h : x % 9 = k) : mkF nx x = ⟨decide (k = 2), decide (k = 3) && nx, decide (k = 0) || decide (k = 1), decide (k = 4), false, false, false, false, if k = 5 then 1 + (x.tdiv 9) % 4 else 0, if k = 6 then 301 else 0⟩ := by unfold mkF; rw [h]
def flgR (f : Flg) : List Value := [Value.bool f.last, .bool f.next, .bool f.chain, .bool f.fin, .bool f.forb, .bool f.gone, .bool f.app, .bool f.disc, .int .i64 f.skip, .int .i64 f.red]
theorem snocFlg (F : Nat → Flg) (i : Nat) : flatC (flgAt F) 10 i ++ flgR (F i) = flatC (flgAt F) 10 (i + 1) := by rw [flat_snoc]; rfl
theorem own_setCell_at {w : World} {base : Nat} {e : TypeId} {size : Nat} {v : Value} {n : Nat} {xs : List Value} {g i : Nat} (h : w.ownsRow base e size v n xs) (hne : v.ownBlock ≠ some g) (u : Value) : (w.setCell ⟨g, i, none⟩ u).ownsRow base e size v n xs :=
  h.kept (row := some g) ⟨rfl, rfl, rfl, by simp [World.setCell], fun k _ hk => Below.heap_setCell _ _ _ _ (fun e => hk (by simp [e]))⟩ (.inr (fun e => hne e))
theorem row_new {w : World} {n : Nat} (hn : n = w.heap.size) (e : TypeId) (l : List Value) (cs : Array Value) (hl : l = cs.toList) : ∀ j u, l[j]? = some u → (w.alloc (.cells cs e)).cell? ((⟨n, 0, none⟩ : Addr).add j) = some u := by
  subst hn
  intro j u h
  rw [Addr.add_lit, Nat.zero_add, Blk.cell (Blk.new _ _ _)]
  rw [hl] at h
  simpa using h
theorem flgR_one (f : Flg) : ∀ u ∈ flgR f, u.oneCell' = true := by
  intro u hu
  unfold flgR at hu
  simp only [List.mem_cons, List.not_mem_nil, or_false] at hu
  rcases hu with rfl | rfl | rfl | rfl | rfl | rfl | rfl | rfl | rfl | rfl <;> rfl
def MadeRel (nx : Bool) (G : Nat → Int) (n : Nat) (w : World) (v i : Value) (wr : World) : Prop :=
  ∃ j : Nat, j ≤ min n 12 ∧ i = .int .i64 (j : Int) ∧ wr.ownsRow w.heap.size 54 10 v j (flatC (flgAt (mkG nx G)) 10 j) ∧ Below w.heap.size w wr

set_option maxRecDepth 100000 in
set_option maxHeartbeats 4000000 in
theorem lmade (G : Nat → Int) (hG : NumOk G) (A : Option Addr) (n c : Nat) (nx : Bool) (q : Nat) (hq0 : q = min n 12) (w : World) (hg : Cells w A 1 n (numAt G)) :
    Calls Tryd.prog 28 #[.slice A n c, .bool nx] w fun e W' => ∃ B d, e = .returned (.slice B q d) ∧ Cells W' B 10 q (flgAt (mkG nx G)) ∧ ArgOk B q d ∧ Below w.heap.size w W' ∧ ∀ a, B = some a → w.heap.size ≤ a.block ∧ a.block < W'.heap.size := by
  obtain ⟨i0, hi, hz0, hz1, hz2⟩ := info_parts infoFlg
  have H := Lib.hid (And.intro hG hg)
  have HQ := Lib.hid hq0
  clear hG hg hq0
  go_enter Tryd.func28, Tryd.ntmps28
  go_wp2_with (fail)
  go_loopw [5, 6] (fun v i wr => MadeRel nx G n w v i wr) (fun _ i _ => 12 - (intOf i).toNat)
  case atStart => exact ⟨0, Nat.zero_le _, rfl, World.ownsRow_nil _ _ _ _, Below.refl _ _⟩
  case round =>
    obtain ⟨j, hj, rfl, how, hb⟩ := hrel
    obtain ⟨va, vc, rfl⟩ := own_slice how
    by_cases hlt : j < min n 12
    · have hl1 : (j : Int) < (n : Int) := by omega
      have hl2 : (j : Int) < 12 := by omega
      have hgx := H.out.1 j
      obtain ⟨ab, ao, rfl, had, hcl⟩ := (H.out.2.below hb) (by omega)
      have hx0 : ∀ W', Below w.heap.size w W' → W'.cell? ⟨ab, ao + j, none⟩ = some (.int .i64 (G j)) := fun W' hw => by
        obtain ⟨ab', ao', e, _, h1⟩ := (H.out.2.below hw) (by omega)
        cases e
        have h1 := h1 j 0 (by omega) (by decide); rw [Nat.mul_one, Nat.add_zero] at h1; exact h1
      clear hcl
      obtain ⟨x, hx⟩ : ∃ x, x = G j := ⟨_, rfl⟩
      rw [← hx] at hgx hx0
      have z1 := gr_alloc hb (.cells #[.bool false, .bool false, .bool false, .bool false, .bool false, .bool false, .bool false, .bool false, .int .i64 0, .int .i64 0] 54)
      have c0 := hx0 _ z1
      have how1 := how.alloc (.cells #[.bool false, .bool false, .bool false, .bool false, .bool false, .bool false, .bool false, .bool false, .int .i64 0, .int .i64 0] 54)
      have hB1 := Blk.new wr 54 #[.bool false, .bool false, .bool false, .bool false, .bool false, .bool false, .bool false, .bool false, .int .i64 0, .int .i64 0]
      have hmk : mkG nx G j = mkF nx x := by rw [hx]; rfl
      have H1 := Lib.hid (And.intro z1 (And.intro how1 (And.intro hB1 (And.intro hx0 hmk))))
      have hsz := hb.size
      have hrow : (Value.slice va j vc).ownBlock ≠ some wr.heap.size := fun e => by have := (how.lt _ e).2; omega
      clear z1 how1 hB1 hx0 hb how hx
      go_wp2_with (fail)
      refine (kmod x 9 _ hgx (by decide)).mono ?_
      rintro e W1 ⟨rfl, h1⟩
      have H2 := Lib.hid (And.intro (gr_call H1.out.1 h1) (And.intro (own_below H1.out.2.1 h1 (Nat.le_refl _)) (And.intro (H1.out.2.2.1.call h1) (And.intro H1.out.2.2.2.1 H1.out.2.2.2.2))))
      clear h1 c0 H1
      obtain ⟨m, hm⟩ : ∃ m, m = x % 9 := ⟨_, rfl⟩
      have hm0 : 0 ≤ m ∧ m < 9 := by omega
      rw [← hm]
      have HM := Lib.hid hm.symm
      clear hm
      go_upto_block 2 with (fail)
      go_cut [] from 23 to 49 (fun wx => Below w.heap.size w wx ∧ wx.ownsRow w.heap.size 54 10 (.slice va j vc) j (flatC (flgAt (mkG nx G)) 10 j) ∧ Blk wx wr.heap.size 54 (flgR (mkF nx x)).toArray)
      case first =>
        have b0 := H2.out.2.2.1
        have bl := b0.lt
        have bf := b0.frozen
        have c0 := H2.out.2.2.2.1 _ H2.out.1
        obtain rfl | rfl | rfl | rfl | rfl | rfl | rfl | rfl | rfl : m = 0 ∨ m = 1 ∨ m = 2 ∨ m = 3 ∨ m = 4 ∨ m = 5 ∨ m = 6 ∨ m = 7 ∨ m = 8 := by omega
        · have d0 := b0.cell' (i := 2) rfl
          have df := b0.frozen 2
          go_wp2_with (fail)
          all_goals go_meet
          all_goals refine ⟨gr_set H2.out.1 (p := ⟨wr.heap.size, 2, none⟩) hsz _, own_setCell_at H2.out.2.1 hrow _, ?_⟩
          all_goals (rw [mkF_of HM.out]; exact b0.set_ _ _)
        · have d0 := b0.cell' (i := 2) rfl
          have df := b0.frozen 2
          go_wp2_with (fail)
          all_goals go_meet
          all_goals refine ⟨gr_set H2.out.1 (p := ⟨wr.heap.size, 2, none⟩) hsz _, own_setCell_at H2.out.2.1 hrow _, ?_⟩
          all_goals (rw [mkF_of HM.out]; exact b0.set_ _ _)
        · have d0 := b0.cell' (i := 0) rfl
          have df := b0.frozen 0
          go_wp2_with (fail)
          all_goals go_meet
          all_goals refine ⟨gr_set H2.out.1 (p := ⟨wr.heap.size, 0, none⟩) hsz _, own_setCell_at H2.out.2.1 hrow _, ?_⟩
          all_goals (rw [mkF_of HM.out]; exact b0.set_ _ _)
        · have d0 := b0.cell' (i := 1) rfl
          have df := b0.frozen 1
          go_wp2_with (fail)
          all_goals go_meet
          all_goals refine ⟨gr_set H2.out.1 (p := ⟨wr.heap.size, 1, none⟩) hsz _, own_setCell_at H2.out.2.1 hrow _, ?_⟩
          all_goals (rw [mkF_of HM.out]; exact b0.set_ _ _)
        · have d0 := b0.cell' (i := 3) rfl
          have df := b0.frozen 3
          go_wp2_with (fail)
          all_goals go_meet
          all_goals refine ⟨gr_set H2.out.1 (p := ⟨wr.heap.size, 3, none⟩) hsz _, own_setCell_at H2.out.2.1 hrow _, ?_⟩
          all_goals (rw [mkF_of HM.out]; exact b0.set_ _ _)
        · have hq : -9223372036854775808 ≤ x.tdiv 9 ∧ x.tdiv 9 ≤ 9223372036854775807 := by
            have h1 := Int.mul_tdiv_add_tmod x 9
            have h2 := Int.tmod_lt_of_pos x (show (0 : Int) < 9 by decide)
            have h3 := Int.lt_tmod_of_pos x (show (0 : Int) < 9 by decide)
            omega
          go_wp2_with (fail)
          refine (kmod (x.tdiv 9) 4 _ hq (by decide)).mono ?_
          rintro e W3 ⟨rfl, h3⟩
          have hm0 := Int.emod_nonneg (x.tdiv 9) (show (4 : Int) ≠ 0 by decide)
          have hm1 := Int.emod_lt_of_pos (x.tdiv 9) (show (0 : Int) < 4 by decide)
          generalize hr : x.tdiv 9 % 4 = r at hm0 hm1 ⊢
          have HR := Lib.hid hr
          have b1 := b0.call h3
          have T := Lib.hid (And.intro (gr_call H2.out.1 h3) (And.intro (own_below H2.out.2.1 h3 (Nat.le_refl _)) b1))
          have d0 := b1.cell' (i := 8) rfl
          have df := b1.frozen 8
          have dl := b1.lt
          clear b0 bf c0 hr b1 h3
          go_wp2_with (fail)
          all_goals go_meet
          all_goals refine ⟨gr_set T.out.1 (p := ⟨wr.heap.size, 8, none⟩) hsz _, own_setCell_at T.out.2.1 hrow _, ?_⟩
          all_goals (rw [mkF_of HM.out, if_pos rfl, HR.out]; exact T.out.2.2.set_ _ _)
        · have d0 := b0.cell' (i := 9) rfl
          have df := b0.frozen 9
          go_wp2_with (fail)
          all_goals go_meet
          all_goals refine ⟨gr_set H2.out.1 (p := ⟨wr.heap.size, 9, none⟩) hsz _, own_setCell_at H2.out.2.1 hrow _, ?_⟩
          all_goals (rw [mkF_of HM.out]; exact b0.set_ _ _)
        · go_wp2_with (fail)
          all_goals go_meet
          all_goals exact ⟨H2.out.1, H2.out.2.1, by rw [mkF_of HM.out]; exact b0⟩
        · go_wp2_with (fail)
          all_goals go_meet
          all_goals exact ⟨H2.out.1, H2.out.2.1, by rw [mkF_of HM.out]; exact b0⟩
      case rest =>
      have hF : mkF nx x = mkG nx G j := H2.out.2.2.2.2.symm
      have HG := Lib.hid (And.intro hF hcut)
      have hb3 := hcut.2.2
      have how3 := hcut.2.1
      generalize hf : mkF nx x = f at hb3
      have HF := Lib.hid hf
      clear hf
      have hb3 : Blk wc wr.heap.size 54 #[Value.bool f.last, .bool f.next, .bool f.chain, .bool f.fin, .bool f.forb, .bool f.gone, .bool f.app, .bool f.disc, .int .i64 f.skip, .int .i64 f.red] := hb3
      have d0 := hb3.cell' (i := 0) rfl
      have d1 := hb3.cell' (i := 1) rfl
      have d2 := hb3.cell' (i := 2) rfl
      have d3 := hb3.cell' (i := 3) rfl
      have d4 := hb3.cell' (i := 4) rfl
      have d5 := hb3.cell' (i := 5) rfl
      have d6 := hb3.cell' (i := 6) rfl
      have d7 := hb3.cell' (i := 7) rfl
      have d8 := hb3.cell' (i := 8) rfl
      have d9 := hb3.cell' (i := 9) rfl
      have dl := hb3.lt
      clear hcut hF HM H2 hb3
      go_wp2_with (at_builtin; refine wpList_append_own _ rfl _ _ 22 rfl w.heap.size 54 i0 _ 10 24 Tryd.underlying22 hi hz0 hz1 hz2 rfl (by decide) _ _ _ rfl (how3.alloc _) ⟨wc.heap.size, 0, none⟩ 1 1 (flgR f) rfl rfl ?c1 ?c2 ?c3 ?c4 ?c5 ?_)
      case c1 => exact row_new rfl _ _ _ rfl
      case c2 => exact flgR_one f
      case c3 => unfold maxLen; omega
      case c4 => omega
      case c5 => have := HG.out.2.1.size; simp; omega
      intro v' w2 hown' hgrow _
      have hz2 : Below w.heap.size w w2 := (gr_alloc HG.out.2.1 (.cells #[Value.bool f.last, .bool f.next, .bool f.chain, .bool f.fin, .bool f.forb, .bool f.gone, .bool f.app, .bool f.disc, .int .i64 f.skip, .int .i64 f.red] 54)).grown hgrow (by have := HG.out.2.1.size; simp; omega) (fun q hq => (how3.lt q hq).1)
      have H3 := Lib.hid (And.intro hz2 hown')
      clear hown' hgrow hz2 how3 d0 d1 d2 d3 d4 d5 d6 d7 d8 d9 dl
      go_wp2_with (fail)
      exact ⟨⟨j + 1, by omega, by go_num, by rw [← snocFlg, ← HG.out.1, HF.out]; exact H3.out.2, H3.out.1⟩, by simp [intOf]; omega⟩
    · have hq := HQ.out
      obtain rfl : j = q := by omega
      have HR := Lib.hid (And.intro how hb)
      clear how hb hlt hj HQ
      by_cases h1 : j < n
      · have h2 : (j : Int) < (n : Int) := by omega
        have h3 : ¬ (j : Int) < 12 := by omega
        clear hq
        go_wp2_with (fail)
        go_ret
        obtain ⟨B, d, e1, e2, e3⟩ := row_cells (by decide) HR.out.1
        cases e1
        exact ⟨_, _, rfl, e2, e3, HR.out.2, fun a ha => HR.out.1.lt a.block (by rw [ha]; rfl)⟩
      · have h2 : ¬ (j : Int) < (n : Int) := by omega
        clear hq
        go_wp2_with (fail)
        go_ret
        obtain ⟨B, d, e1, e2, e3⟩ := row_cells (by decide) HR.out.1
        cases e1
        exact ⟨_, _, rfl, e2, e3, HR.out.2, fun a ha => HR.out.1.lt a.block (by rw [ha]; rfl)⟩
end Go.Proofs.YtjkmkpehnnkpiaaDoor
