/-
  The law's own, walked: rows in new memory; conditions: how many rows and words there are.
-/
import Derived.Test.YtpicenopiigfpaaDoorRwU
import Derived.Test.YtpicenopiigfpaaDoorRwK
import Derived.Test.YtpicenopiigfpaaDoorInx
import Derived.Deep.AppendSrc
import Derived.Deep.Upon
import Derived.Lib.AppendZeros
namespace Go.Proofs.YtpicenopiigfpaaDoor
open Go.RowKit Go.Shelf
set_option linter.unusedVariables false
set_option linter.unusedSimpArgs false

theorem wdAt_one (ws : List Wd) : ∀ i j, (wdAt ws i j).oneCell' = true := by
  intro i j
  unfold wdAt
  cases ws[i]? with
  | none => rfl
  | some d =>
    match j with
    | 0 => rfl
    | 1 => rfl
    | 2 => rfl
    | _ + 3 => rfl
/-- 'append([]Word{}, l...)': the copy, in new memory. -/
theorem own_copy {W : World} {g B : Nat} (hg : Blk W g 41 #[]) (hgB : B ≤ g) (hB : B ≤ W.heap.size) (v : Value) (ws : List Wd) (hv : WordsIn W v ws) (hn : ws.length ≤ 1000000) :
    ∃ v' W', (Builtin.append_ #[37, 37] 37 #[.slice (some ⟨g, 0, none⟩) 0 0, v]).run Tryd.prog W = .ok v' W' ∧ W'.ownsRow B 41 3 v' ws.length (wdsC ws) ∧ Below W.heap.size W W' := by
  obtain ⟨i1, hi1, hz10, hz11, hz12⟩ := info_parts infoWord
  obtain ⟨A, c, rfl, hA, hc⟩ := hv
  obtain ⟨n, hnn⟩ : ∃ n, n = ws.length := ⟨_, rfl⟩
  have hfl : flatC (wdAt ws) 3 n = wdsC ws := by
    symm
    refine eq_flatC (by rw [wdsC_len, hnn]) (fun t ht => wdsC_at ws t (by rw [← hnn]; exact ht))
  rw [← hnn] at hn hc hA ⊢
  by_cases h0 : n = 0
  · subst h0
    have hw : ws = [] := List.length_eq_zero_iff.1 hnn.symm
    have hs : Src Tryd.prog i1.size 37 (.slice A 0 c) 0 [] W := by
      cases A with
      | none => exact Src.ofNil W Tryd.underlying37 c
      | some a => exact Src.ofSlice W Tryd.underlying37 a 0 c [] (by simp) (by intro j u hj; simp at hj) (by intro u hu; cases hu)
    refine ⟨.slice (some ⟨g, 0, none⟩) 0 0, W, run_append_nothing W 37 37 37 41 i1 Tryd.underlying37 hi1 _ 0 0 (Nat.le_refl _) _ hs, ?_, Below.refl _ _⟩
    rw [hw]
    exact ⟨rfl, .inr ⟨g, 0, #[], rfl, hgB, hg, Nat.le_refl _, by unfold maxLen; omega, rfl, rfl⟩⟩
  · have hn0 : 0 < n := by omega
    obtain ⟨b, off, rfl, hbl, hcl⟩ := hc hn0
    have hs : Src Tryd.prog i1.size 37 (.slice (some ⟨b, off, none⟩) n c) n (flatC (wdAt ws) 3 n) W := by
      refine Src.ofSlice W Tryd.underlying37 _ n c _ (by rw [flatC_len, hz11]) (fun j u hj => ?_) (fun u hu => ?_)
      · have hjl : j < n * 3 := by
          have := (List.getElem?_eq_some_iff.1 hj).1
          rwa [flatC_len] at this
        rw [flatC_at (wdAt ws) 3 n j hjl] at hj
        have h1 := hcl (j / 3) (j % 3) (by omega) (by omega)
        have ej : off + j / 3 * 3 + j % 3 = off + j := by omega
        rw [ej] at h1
        rw [Addr.add_lit, h1]
        exact hj
      · obtain ⟨t', _, rfl⟩ := List.mem_map.1 hu
        exact wdAt_one _ _ _
    have hr := run_append_grow_src (P := Tryd.prog) W 37 37 37 41 i1 _ Tryd.underlying37 hi1 hz10 (some ⟨g, 0, none⟩) 0 0 [] (by rw [hz11]; exact run_firstCells_some W.drew 3 0 _ 0 0 [] (by simp) (by intro j u hj; simp at hj)) _ n _ hs (by omega) (by omega) (by rw [Nat.zero_add, nextslicecap_zero hn0, hz12]; omega)
    rw [Nat.zero_add] at hr
    refine ⟨_, _, hr, ⟨by rw [wdsC_len, hnn], .inr ⟨W.heap.size, _, _, rfl, hB, heap_alloc_new W.drew _, grownCap_ge W n 0 41, grownCap_le_maxLen W n 0 41 (by unfold maxLen; omega), ?_, ?_⟩⟩, gr_alloc (gr_drew (Below.refl _ _)) _⟩
    · have := grownCap_ge W n 0 41
      rw [Array.size_append, List.size_toArray, List.nil_append, flatC_len, size_zeroCells]
      show n * 3 + (grownCap W n 0 41 - n) * 3 = _
      omega
    · rw [Array.toList_append, List.nil_append, hfl]
      exact List.take_left' (by rw [wdsC_len, hnn])
theorem OwnRs.push {B : Nat} {W X W2 : World} {rs : List Rw} {v v' vw : Value} {vs : List Value} {r : Rw} (ho : W.ownsRow B 39 2 v rs.length (rowsC rs vs)) (hin : InnerOk W B rs vs)
    (hX : Below W.heap.size W X) (hg : X.grownBy W2 v.ownBlock) (hw : X.ownsRow B 41 3 vw r.w.length (wdsC r.w))
    (hown : W2.ownsRow B 39 2 v' (rs.length + 1) (rowsC rs vs ++ [.int .i64 (r.a : Int), vw])) : OwnRs W2 B v' (rs ++ [r]) := by
  have ox := own_below ho hX (Nat.le_refl _)
  have hk : ∀ k t cs, Blk X k t cs → t ≠ 39 → Blk W2 k t cs := fun k t cs hb ht => hb.grown hg (own_blk_ne ox hb (fun e => ht e.symm))
  have hkw : ∀ k cs, Blk X k 41 cs → Blk W2 k 41 cs := fun k cs hb => hk k _ cs hb (by decide)
  refine ⟨vs ++ [vw], ?_, InnerOk.snoc (own_blks hw hkw) ((hin.keep (fun k cs hb => hb.call hX)).keep hkw)⟩
  rw [rowsC_snoc r vw hin.len, List.length_append]
  exact hown

set_option maxRecDepth 100000 in
set_option maxHeartbeats 8000000 in
theorem lown (rs : List Rw) (hl : rs.length ≤ 100000) (hr : ∀ r ∈ rs, r.w.length ≤ 100000) (v : Value) (w : World) (hv : RowsIn w v rs) :
    Calls Tryd.prog 20 #[v] w fun e W' => ∃ u, e = .returned u ∧ OwnRs W' w.heap.size u rs ∧ Below w.heap.size w W' := by
  obtain ⟨A, c, vs, rfl, _, hA, hvs, hin⟩ := hv
  obtain ⟨i0, hi, hz0, hz1, hz2⟩ := info_parts infoRow
  obtain ⟨n, hn⟩ : ∃ n, n = rs.length := ⟨_, rfl⟩
  have HA := Lib.hid (And.intro hA (And.intro hin (And.intro hvs (And.intro hn hr))))
  rw [← hn] at hl ⊢
  clear hA hin hvs hn hr
  go_enter Tryd.func20, Tryd.ntmps20
  go_wp2_with (fail)
  go_loopg [3, 4] n (fun m ov iv wr => ∃ k : Nat, m = n - k ∧ k ≤ n ∧ iv = .int .i64 (k : Int) ∧ OwnRs wr w.heap.size ov (rs.take k) ∧ Below w.heap.size w wr)
  case atStart => exact ⟨0, rfl, Nat.zero_le _, rfl, OwnRs.nil _ _, Below.refl _ _⟩
  case round =>
    obtain ⟨k, hm, hk, rfl, hown, hbel⟩ := hrel
    have hbw := hbel.size
    by_cases hlt : k < n
    · obtain ⟨r, hr⟩ : ∃ r, rs[k]? = some r := ⟨_, List.getElem?_eq_getElem (by rw [← HA.out.2.2.2.1]; exact hlt)⟩
      obtain ⟨u, hu⟩ : ∃ u, vs[k]? = some u := ⟨_, List.getElem?_eq_getElem (by rw [HA.out.2.2.1, ← HA.out.2.2.2.1]; exact hlt)⟩
      obtain ⟨ab, ao, rfl, hab, c0, c1⟩ := cells_rw (HA.out.1.below hbel) hr hu
      have hwi := (HA.out.2.1 k r u hr hu).below hbel
      have hrw : r.w.length ≤ 1000000 := by have := HA.out.2.2.2.2 r (List.mem_of_getElem? hr); omega
      have htk : rs.take (k + 1) = rs.take k ++ [r] := by rw [List.take_add_one, hr]; rfl
      have hlk : (rs.take k).length = k := by rw [List.length_take, ← HA.out.2.2.2.1]; omega
      have hlk' : (rs.take k).length ≤ 100000 := by omega
      have F := Lib.hid (And.intro hm (And.intro htk (And.intro c0 (And.intro c1 (And.intro hown (And.intro hbel hwi))))))
      obtain ⟨p, hp⟩ : ∃ p, p = rs.take k := ⟨_, rfl⟩
      have hlp : p.length ≤ 100000 := by rw [hp]; omega
      clear hm htk c0 c1 hown hbel hwi hr hu hlk hlk'
      go_wp2_with (fail)
      refine wp_region_lateX 15 [] (fun d x v => match d with
        | 11 => v = u3
        | 12 => v = (.slice (some ⟨ab, ao, none⟩) n c)
        | 13 => v = .int .i64 (k : Int)
        | 14 => v = (.pointer (some ⟨ab, ao + k * 2, none⟩))
        | 15 => v = (.pointer (some ⟨ab, ao + k * 2, none⟩))
        | 16 => v = .int .i64 r.a
        | 17 => ∃ g, v = .slice (some ⟨g, 0, none⟩) 0 0 ∧ w.heap.size ≤ g ∧ Blk x g 41 #[]
        | 18 => v = (.slice (some ⟨ab, ao, none⟩) n c)
        | 19 => v = .int .i64 (k : Int)
        | 20 => v = (.pointer (some ⟨ab, ao + k * 2, none⟩))
        | 21 => v = (.pointer (some ⟨ab, ao + k * 2 + 1, none⟩))
        | 22 => v = u
        | 23 => x.ownsRow w.heap.size 41 3 v r.w.length (wdsC r.w)
        | 24 => ∃ vv, v = .agg #[.int .i64 r.a, vv] ∧ x.ownsRow w.heap.size 41 3 vv r.w.length (wdsC r.w)
        | 25 => ∃ g vv, v = .slice (some ⟨g, 0, none⟩) 1 1 ∧ Blk x g 39 #[.int .i64 r.a, vv] ∧ x.ownsRow w.heap.size 41 3 vv r.w.length (wdsC r.w)
        | _ => v = .bool true) (by kernel_rfl) (by kernel_rfl) (by kernel_rfl) (by kernel_rfl) (by decide) ?stable ?dist ?steps ?fin
      case stable =>
        intro d x x' v hB h
        revert h
        split <;> intro h <;> first
          | exact h
          | exact own_below h hB (Nat.le_refl _)
          | (obtain ⟨g, h1, h2, h3⟩ := h
             exact ⟨g, h1, h2, h3.call hB⟩)
          | (obtain ⟨vv, h1, h2⟩ := h
             exact ⟨vv, h1, own_below h2 hB (Nat.le_refl _)⟩)
          | (obtain ⟨g, vv, h1, h2, h3⟩ := h
             exact ⟨g, vv, h1, h2.call hB, own_below h3 hB (Nat.le_refl _)⟩)
      case dist =>
        intro d hd
        cases hd
      case steps =>
        refine ⟨?_, ?_⟩
        · intro a w' hB hsz hbase hdeps K hK
          obtain ⟨ev, hev⟩ : ∃ ev, ev = a.eval := ⟨_, rfl⟩
          have hec : ∀ v, ev (.const v) = v := fun v => by rw [hev]; rfl
          have hef : ∀ f, ev (.func f) = .func (.func f) #[] #[] := fun f => by rw [hev]; rfl
          rw [← hev] at hbase hdeps
          have b3 : ev (.tmp 3) = u3 := (hbase 3 (by kernel_rfl))
          rw [if_pos (by kernel_rfl)]
          left
          refine step_val (v := u3) (w' := w') ?_ (hK _ _ (Below.refl _ _) (by intro d hd; cases hd; exact rfl) (by intro d hd hm; cases hd; exact absurd hm (by decide)))
          rw [← hev]
          clear hK hdeps hbase hev
          simp only [execOp, hec, hef, b3]
          go_simp
        refine ⟨?_, ?_⟩
        · intro a w' hB hsz hbase hdeps K hK
          obtain ⟨ev, hev⟩ : ∃ ev, ev = a.eval := ⟨_, rfl⟩
          have hec : ∀ v, ev (.const v) = v := fun v => by rw [hev]; rfl
          have hef : ∀ f, ev (.func f) = .func (.func f) #[] #[] := fun f => by rw [hev]; rfl
          rw [← hev] at hbase hdeps
          have b0 : ev (.tmp 0) = (.slice (some ⟨ab, ao, none⟩) n c) := (hbase 0 (by kernel_rfl))
          rw [if_pos (by kernel_rfl)]
          left
          refine step_val (v := (.slice (some ⟨ab, ao, none⟩) n c)) (w' := w') ?_ (hK _ _ (Below.refl _ _) (by intro d hd; cases hd; exact rfl) (by intro d hd hm; cases hd; exact absurd hm (by decide)))
          rw [← hev]
          clear hK hdeps hbase hev
          simp only [execOp, hec, hef, b0]
          go_simp
        refine ⟨?_, ?_⟩
        · intro a w' hB hsz hbase hdeps K hK
          obtain ⟨ev, hev⟩ : ∃ ev, ev = a.eval := ⟨_, rfl⟩
          have hec : ∀ v, ev (.const v) = v := fun v => by rw [hev]; rfl
          have hef : ∀ f, ev (.func f) = .func (.func f) #[] #[] := fun f => by rw [hev]; rfl
          rw [← hev] at hbase hdeps
          have b4 : ev (.tmp 4) = .int .i64 (k : Int) := (hbase 4 (by kernel_rfl))
          rw [if_pos (by kernel_rfl)]
          left
          refine step_val (v := .int .i64 (k : Int)) (w' := w') ?_ (hK _ _ (Below.refl _ _) (by intro d hd; cases hd; exact rfl) (by intro d hd hm; cases hd; exact absurd hm (by decide)))
          rw [← hev]
          clear hK hdeps hbase hev
          simp only [execOp, hec, hef, b4]
          go_simp
        refine ⟨?_, ?_⟩
        · intro a w' hB hsz hbase hdeps K hK
          obtain ⟨ev, hev⟩ : ∃ ev, ev = a.eval := ⟨_, rfl⟩
          have hec : ∀ v, ev (.const v) = v := fun v => by rw [hev]; rfl
          have hef : ∀ f, ev (.func f) = .func (.func f) #[] #[] := fun f => by rw [hev]; rfl
          rw [← hev] at hbase hdeps
          have d12 : ev (.tmp 12) = (.slice (some ⟨ab, ao, none⟩) n c) := hdeps 12 (of_decide_eq_true (by kernel_rfl))
          have d13 : ev (.tmp 13) = .int .i64 (k : Int) := hdeps 13 (of_decide_eq_true (by kernel_rfl))
          rw [if_pos (by kernel_rfl)]
          left
          refine step_val (v := (.pointer (some ⟨ab, ao + k * 2, none⟩))) (w' := w') ?_ (hK _ _ (Below.refl _ _) (by intro d hd; cases hd; exact rfl) (by intro d hd hm; cases hd; exact absurd hm (by decide)))
          rw [← hev]
          clear hK hdeps hbase hev
          simp only [execOp, hec, hef, d12, d13]
          go_simp
        refine ⟨?_, ?_⟩
        · intro a w' hB hsz hbase hdeps K hK
          obtain ⟨ev, hev⟩ : ∃ ev, ev = a.eval := ⟨_, rfl⟩
          have hec : ∀ v, ev (.const v) = v := fun v => by rw [hev]; rfl
          have hef : ∀ f, ev (.func f) = .func (.func f) #[] #[] := fun f => by rw [hev]; rfl
          rw [← hev] at hbase hdeps
          have d14 : ev (.tmp 14) = (.pointer (some ⟨ab, ao + k * 2, none⟩)) := hdeps 14 (of_decide_eq_true (by kernel_rfl))
          rw [if_pos (by kernel_rfl)]
          left
          refine step_val (v := (.pointer (some ⟨ab, ao + k * 2, none⟩))) (w' := w') ?_ (hK _ _ (Below.refl _ _) (by intro d hd; cases hd; exact rfl) (by intro d hd hm; cases hd; exact absurd hm (by decide)))
          rw [← hev]
          clear hK hdeps hbase hev
          simp only [execOp, hec, hef, d14]
          go_simp
        refine ⟨?_, ?_⟩
        · intro a w' hB hsz hbase hdeps K hK
          obtain ⟨ev, hev⟩ : ∃ ev, ev = a.eval := ⟨_, rfl⟩
          have hec : ∀ v, ev (.const v) = v := fun v => by rw [hev]; rfl
          have hef : ∀ f, ev (.func f) = .func (.func f) #[] #[] := fun f => by rw [hev]; rfl
          rw [← hev] at hbase hdeps
          have d15 : ev (.tmp 15) = (.pointer (some ⟨ab, ao + k * 2, none⟩)) := hdeps 15 (of_decide_eq_true (by kernel_rfl))
          rw [if_pos (by kernel_rfl)]
          left
          have x0 : w'.cell? ⟨ab, ao + k * 2, none⟩ = some (.int .i64 r.a) := ((bcell hB).1 _ _ hab).trans F.out.2.2.1
          have x1 : w'.cell? ⟨ab, ao + k * 2 + 1, none⟩ = some u := ((bcell hB).1 _ _ hab).trans F.out.2.2.2.1
          have xa : ab < w'.heap.size := Nat.lt_of_lt_of_le hab hB.size
          refine step_val (v := .int .i64 r.a) (w' := w') ?_ (hK _ _ (Below.refl _ _) (by intro d hd; cases hd; exact rfl) (by intro d hd hm; cases hd; exact absurd hm (by decide)))
          rw [← hev]
          clear hK hdeps hbase hev
          simp only [execOp, hec, hef, d15]
          go_simp
        refine ⟨?_, ?_⟩
        · intro a w' hB hsz hbase hdeps K hK
          obtain ⟨ev, hev⟩ : ∃ ev, ev = a.eval := ⟨_, rfl⟩
          have hec : ∀ v, ev (.const v) = v := fun v => by rw [hev]; rfl
          have hef : ∀ f, ev (.func f) = .func (.func f) #[] #[] := fun f => by rw [hev]; rfl
          rw [← hev] at hbase hdeps
          rw [if_pos (by kernel_rfl)]
          left
          refine step_val (v := .slice (some ⟨w'.heap.size, 0, none⟩) 0 0) (w' := w'.alloc (.cells #[] 41)) ?_ (hK _ _ (gr_alloc (Below.refl _ _) _) (by intro d hd; cases hd; exact ⟨_, rfl, Nat.le_trans hbw hB.size, Blk.new _ _ _⟩) (by intro d hd hm; cases hd; exact absurd hm (by decide)))
          rw [← hev]
          clear hK hdeps hbase hev
          simp only [execOp, hec, hef]
          go_simp
        refine ⟨?_, ?_⟩
        · intro a w' hB hsz hbase hdeps K hK
          obtain ⟨ev, hev⟩ : ∃ ev, ev = a.eval := ⟨_, rfl⟩
          have hec : ∀ v, ev (.const v) = v := fun v => by rw [hev]; rfl
          have hef : ∀ f, ev (.func f) = .func (.func f) #[] #[] := fun f => by rw [hev]; rfl
          rw [← hev] at hbase hdeps
          have b0 : ev (.tmp 0) = (.slice (some ⟨ab, ao, none⟩) n c) := (hbase 0 (by kernel_rfl))
          rw [if_pos (by kernel_rfl)]
          left
          refine step_val (v := (.slice (some ⟨ab, ao, none⟩) n c)) (w' := w') ?_ (hK _ _ (Below.refl _ _) (by intro d hd; cases hd; exact rfl) (by intro d hd hm; cases hd; exact absurd hm (by decide)))
          rw [← hev]
          clear hK hdeps hbase hev
          simp only [execOp, hec, hef, b0]
          go_simp
        refine ⟨?_, ?_⟩
        · intro a w' hB hsz hbase hdeps K hK
          obtain ⟨ev, hev⟩ : ∃ ev, ev = a.eval := ⟨_, rfl⟩
          have hec : ∀ v, ev (.const v) = v := fun v => by rw [hev]; rfl
          have hef : ∀ f, ev (.func f) = .func (.func f) #[] #[] := fun f => by rw [hev]; rfl
          rw [← hev] at hbase hdeps
          have b4 : ev (.tmp 4) = .int .i64 (k : Int) := (hbase 4 (by kernel_rfl))
          rw [if_pos (by kernel_rfl)]
          left
          refine step_val (v := .int .i64 (k : Int)) (w' := w') ?_ (hK _ _ (Below.refl _ _) (by intro d hd; cases hd; exact rfl) (by intro d hd hm; cases hd; exact absurd hm (by decide)))
          rw [← hev]
          clear hK hdeps hbase hev
          simp only [execOp, hec, hef, b4]
          go_simp
        refine ⟨?_, ?_⟩
        · intro a w' hB hsz hbase hdeps K hK
          obtain ⟨ev, hev⟩ : ∃ ev, ev = a.eval := ⟨_, rfl⟩
          have hec : ∀ v, ev (.const v) = v := fun v => by rw [hev]; rfl
          have hef : ∀ f, ev (.func f) = .func (.func f) #[] #[] := fun f => by rw [hev]; rfl
          rw [← hev] at hbase hdeps
          have d18 : ev (.tmp 18) = (.slice (some ⟨ab, ao, none⟩) n c) := hdeps 18 (of_decide_eq_true (by kernel_rfl))
          have d19 : ev (.tmp 19) = .int .i64 (k : Int) := hdeps 19 (of_decide_eq_true (by kernel_rfl))
          rw [if_pos (by kernel_rfl)]
          left
          refine step_val (v := (.pointer (some ⟨ab, ao + k * 2, none⟩))) (w' := w') ?_ (hK _ _ (Below.refl _ _) (by intro d hd; cases hd; exact rfl) (by intro d hd hm; cases hd; exact absurd hm (by decide)))
          rw [← hev]
          clear hK hdeps hbase hev
          simp only [execOp, hec, hef, d18, d19]
          go_simp
        refine ⟨?_, ?_⟩
        · intro a w' hB hsz hbase hdeps K hK
          obtain ⟨ev, hev⟩ : ∃ ev, ev = a.eval := ⟨_, rfl⟩
          have hec : ∀ v, ev (.const v) = v := fun v => by rw [hev]; rfl
          have hef : ∀ f, ev (.func f) = .func (.func f) #[] #[] := fun f => by rw [hev]; rfl
          rw [← hev] at hbase hdeps
          have d20 : ev (.tmp 20) = (.pointer (some ⟨ab, ao + k * 2, none⟩)) := hdeps 20 (of_decide_eq_true (by kernel_rfl))
          rw [if_pos (by kernel_rfl)]
          left
          refine step_val (v := (.pointer (some ⟨ab, ao + k * 2 + 1, none⟩))) (w' := w') ?_ (hK _ _ (Below.refl _ _) (by intro d hd; cases hd; exact rfl) (by intro d hd hm; cases hd; exact absurd hm (by decide)))
          rw [← hev]
          clear hK hdeps hbase hev
          simp only [execOp, hec, hef, d20]
          go_simp
        refine ⟨?_, ?_⟩
        · intro a w' hB hsz hbase hdeps K hK
          obtain ⟨ev, hev⟩ : ∃ ev, ev = a.eval := ⟨_, rfl⟩
          have hec : ∀ v, ev (.const v) = v := fun v => by rw [hev]; rfl
          have hef : ∀ f, ev (.func f) = .func (.func f) #[] #[] := fun f => by rw [hev]; rfl
          rw [← hev] at hbase hdeps
          have d21 : ev (.tmp 21) = (.pointer (some ⟨ab, ao + k * 2 + 1, none⟩)) := hdeps 21 (of_decide_eq_true (by kernel_rfl))
          rw [if_pos (by kernel_rfl)]
          left
          have x0 : w'.cell? ⟨ab, ao + k * 2, none⟩ = some (.int .i64 r.a) := ((bcell hB).1 _ _ hab).trans F.out.2.2.1
          have x1 : w'.cell? ⟨ab, ao + k * 2 + 1, none⟩ = some u := ((bcell hB).1 _ _ hab).trans F.out.2.2.2.1
          have xa : ab < w'.heap.size := Nat.lt_of_lt_of_le hab hB.size
          refine step_val (v := u) (w' := w') ?_ (hK _ _ (Below.refl _ _) (by intro d hd; cases hd; exact rfl) (by intro d hd hm; cases hd; exact absurd hm (by decide)))
          rw [← hev]
          clear hK hdeps hbase hev
          simp only [execOp, hec, hef, d21]
          go_simp
        refine ⟨?_, ?_⟩
        · intro a w' hB hsz hbase hdeps K hK
          obtain ⟨ev, hev⟩ : ∃ ev, ev = a.eval := ⟨_, rfl⟩
          have hec : ∀ v, ev (.const v) = v := fun v => by rw [hev]; rfl
          have hef : ∀ f, ev (.func f) = .func (.func f) #[] #[] := fun f => by rw [hev]; rfl
          rw [← hev] at hbase hdeps
          obtain ⟨g, d17, hgs, hgb⟩ := hdeps 17 (of_decide_eq_true (by kernel_rfl))
          have d22 : ev (.tmp 22) = u := hdeps 22 (of_decide_eq_true (by kernel_rfl))
          rw [if_pos (by kernel_rfl)]
          left
          obtain ⟨v2, x2, hrun, hown, hbl⟩ := own_copy hgb hgs (Nat.le_trans hbw hB.size) u r.w (F.out.2.2.2.2.2.2.below hB) hrw
          refine Lib.wp_append_run w' (.tmp 17) (.tmp 22) 37 37 rfl (.slice (some ⟨g, 0, none⟩) 0 0) u (by rw [← hev]; exact d17) (by rw [← hev]; exact d22) _ _ hrun (hK _ _ hbl (by intro q hq; cases hq; exact hown) (by intro d hd hm; cases hd; exact absurd hm (by decide)))
        refine ⟨?_, ?_⟩
        · intro a w' hB hsz hbase hdeps K hK
          obtain ⟨ev, hev⟩ : ∃ ev, ev = a.eval := ⟨_, rfl⟩
          have hec : ∀ v, ev (.const v) = v := fun v => by rw [hev]; rfl
          have hef : ∀ f, ev (.func f) = .func (.func f) #[] #[] := fun f => by rw [hev]; rfl
          rw [← hev] at hbase hdeps
          have d16 : ev (.tmp 16) = .int .i64 r.a := hdeps 16 (of_decide_eq_true (by kernel_rfl))
          obtain ⟨vv, hvv⟩ : ∃ vv, vv = ev (.tmp 23) := ⟨_, rfl⟩
          have o23 := hdeps 23 (of_decide_eq_true (by kernel_rfl))
          rw [← hvv] at o23
          have d23 : ev (.tmp 23) = vv := hvv.symm
          clear hvv
          have o23 : w'.ownsRow w.heap.size 41 3 vv r.w.length (wdsC r.w) := o23
          obtain ⟨va, vc, rfl⟩ := own_slice o23
          rw [if_pos (by kernel_rfl)]
          left
          refine step_val (v := .agg #[.int .i64 r.a, .slice va r.w.length vc]) (w' := w') ?_ (hK _ _ (Below.refl _ _) (by intro q hq; cases hq; exact ⟨_, rfl, o23⟩) (by intro d hd hm; cases hd; exact absurd hm (by decide)))
          rw [← hev]
          clear o23
          clear hK hdeps hbase hev
          simp only [execOp, hec, hef, d16, d23]
          go_simp
        refine ⟨?_, ?_⟩
        · intro a w' hB hsz hbase hdeps K hK
          obtain ⟨ev, hev⟩ : ∃ ev, ev = a.eval := ⟨_, rfl⟩
          have hec : ∀ v, ev (.const v) = v := fun v => by rw [hev]; rfl
          have hef : ∀ f, ev (.func f) = .func (.func f) #[] #[] := fun f => by rw [hev]; rfl
          rw [← hev] at hbase hdeps
          obtain ⟨vv, d24, o24⟩ := hdeps 24 (of_decide_eq_true (by kernel_rfl))
          obtain ⟨va, vc, rfl⟩ := own_slice o24
          rw [if_pos (by kernel_rfl)]
          left
          refine step_val (v := .slice (some ⟨w'.heap.size, 0, none⟩) 1 1) (w' := w'.alloc (.cells #[.int .i64 r.a, .slice va r.w.length vc] 39)) ?_ (hK _ _ (gr_alloc (Below.refl _ _) _) (by intro q hq; cases hq; exact ⟨_, _, rfl, Blk.new _ _ _, o24.alloc _⟩) (by intro d hd hm; cases hd; exact absurd hm (by decide)))
          rw [← hev]
          clear o24
          clear hK hdeps hbase hev
          simp only [execOp, hec, hef, d24]
          go_simp
        exact trivial

      case fin =>
        intro a X hB hsz hdef hbase hS _
        have v11 : a.eval (.tmp 11) = u3 := hS _ (List.mem_of_getElem? (i := 0) rfl) 11 rfl
        have v12 : a.eval (.tmp 12) = (.slice (some ⟨ab, ao, none⟩) n c) := hS _ (List.mem_of_getElem? (i := 1) rfl) 12 rfl
        have v13 : a.eval (.tmp 13) = .int .i64 (k : Int) := hS _ (List.mem_of_getElem? (i := 2) rfl) 13 rfl
        have v14 : a.eval (.tmp 14) = (.pointer (some ⟨ab, ao + k * 2, none⟩)) := hS _ (List.mem_of_getElem? (i := 3) rfl) 14 rfl
        have v15 : a.eval (.tmp 15) = (.pointer (some ⟨ab, ao + k * 2, none⟩)) := hS _ (List.mem_of_getElem? (i := 4) rfl) 15 rfl
        have v16 : a.eval (.tmp 16) = .int .i64 r.a := hS _ (List.mem_of_getElem? (i := 5) rfl) 16 rfl
        obtain ⟨g17, v17, _, _⟩ := hS _ (List.mem_of_getElem? (i := 6) rfl) 17 rfl
        have v18 : a.eval (.tmp 18) = (.slice (some ⟨ab, ao, none⟩) n c) := hS _ (List.mem_of_getElem? (i := 7) rfl) 18 rfl
        have v19 : a.eval (.tmp 19) = .int .i64 (k : Int) := hS _ (List.mem_of_getElem? (i := 8) rfl) 19 rfl
        have v20 : a.eval (.tmp 20) = (.pointer (some ⟨ab, ao + k * 2, none⟩)) := hS _ (List.mem_of_getElem? (i := 9) rfl) 20 rfl
        have v21 : a.eval (.tmp 21) = (.pointer (some ⟨ab, ao + k * 2 + 1, none⟩)) := hS _ (List.mem_of_getElem? (i := 10) rfl) 21 rfl
        have v22 : a.eval (.tmp 22) = u := hS _ (List.mem_of_getElem? (i := 11) rfl) 22 rfl
        obtain ⟨vv, hvv⟩ : ∃ vv, a.eval (.tmp 23) = vv := ⟨_, rfl⟩
        have v23 : a.eval (.tmp 23) = vv := hvv
        obtain ⟨vw, v24, _⟩ := hS _ (List.mem_of_getElem? (i := 13) rfl) 24 rfl
        obtain ⟨g, vx, v25, hgb, hgo⟩ := hS _ (List.mem_of_getElem? (i := 14) rfl) 25 rfl
        have ha := act_overX [(11, u3), (12, (.slice (some ⟨ab, ao, none⟩) n c)), (13, .int .i64 (k : Int)), (14, (.pointer (some ⟨ab, ao + k * 2, none⟩))), (15, (.pointer (some ⟨ab, ao + k * 2, none⟩))), (16, .int .i64 r.a), (17, .slice (some ⟨g17, 0, none⟩) 0 0), (18, (.slice (some ⟨ab, ao, none⟩) n c)), (19, .int .i64 (k : Int)), (20, (.pointer (some ⟨ab, ao + k * 2, none⟩))), (21, (.pointer (some ⟨ab, ao + k * 2 + 1, none⟩))), (22, u), (23, vv), (24, .agg #[.int .i64 r.a, vw]), (25, .slice (some ⟨g, 0, none⟩) 1 1)] hsz hdef hbase (by kernel_rfl) ⟨v11, v12, v13, v14, v15, v16, v17, v18, v19, v20, v21, v22, v23, v24, v25, trivial⟩
        have hb2 := gr_call F.out.2.2.2.2.2.1 hB
        obtain ⟨qs, hoq, hiq⟩ := F.out.2.2.2.2.1
        rw [← hp] at hoq hiq
        have hoX := own_below hoq hB (Nat.le_refl _)
        have hXs := hb2.size
        have Z := Lib.hid (And.intro hb2 (And.intro hoq (And.intro hiq (And.intro hB (And.intro hgo hgb)))))
        clear hsz hdef hbase hS v11 v12 v13 v14 v15 v16 v17 v18 v19 v20 v21 v22 v23 v24 v25 hb2 hoq hiq hB hgo hvv
        subst ha
        simp only [List.drop, putAll]
        simp (config := {decide := false}) only [Act.put, List.setIfInBounds_toArray, List.set_cons_zero, List.set_cons_succ]
        refine wpList_append_own _ rfl _ _ 23 rfl w.heap.size 39 i0 _ 2 32 Tryd.underlying23 hi hz0 hz1 hz2 rfl (by decide) u3 p.length (rowsC p qs) (by rfl) hoX ⟨g, 0, none⟩ 1 1 [.int .i64 r.a, vx] (by rfl) rfl ?c1 ?c2 ?c3 ?c4 ?c5 ?_
        case c1 =>
          intro j y hj
          rw [Addr.add_lit, Nat.zero_add]
          exact hgb.cell' (by simpa using hj)
        case c2 =>
          obtain ⟨x1, x2, rfl⟩ := own_slice Z.out.2.2.2.2.1
          intro y hy
          simp at hy
          rcases hy with rfl | rfl <;> rfl
        case c3 => unfold maxLen; omega
        case c4 => omega
        case c5 => exact hXs
        intro v' W2 hown' hgrow _
        obtain ⟨vb, vd, rfl⟩ := own_slice hown'
        have hpush := OwnRs.push (r := r) Z.out.2.1 Z.out.2.2.1 Z.out.2.2.2.1 hgrow Z.out.2.2.2.2.1 hown'
        have hbelW := Z.out.1.grown hgrow hXs (fun q hq => (hoX.lt q hq).1)
        have Y := Lib.hid (And.intro hpush hbelW)
        clear hown' hgrow hpush hbelW hoX hgb
        go_wp2_with (fail)
        go_roundg (n - (k + 1))
        case measure => have := F.out.1; omega
        case rel =>
          refine ⟨k + 1, rfl, by omega, rfl, ?_, Y.out.2⟩
          have e : p.length = min k rs.length := by rw [hp, List.length_take]
          rw [F.out.2.1, ← hp, ← e]
          exact Y.out.1
    · have hke : k = n := by omega
      have ht : rs.take k = rs := List.take_of_length_le (by rw [← HA.out.2.2.2.1]; omega)
      have F := Lib.hid (And.intro hown hbel)
      rw [ht] at F
      clear hm hown hbel ht
      go_wp2_with (fail)
      go_ret
      exact ⟨_, rfl, F.out.1, F.out.2⟩
end Go.Proofs.YtpicenopiigfpaaDoor
