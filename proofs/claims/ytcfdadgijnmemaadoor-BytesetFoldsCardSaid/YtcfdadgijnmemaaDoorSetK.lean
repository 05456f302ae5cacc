/-
  byteset.Next and Fold: over the iterator; condition: the library's table lies as it is laid.
-/
import Derived.Test.YtcfdadgijnmemaaDoorSetJ
namespace Go.Proofs.YtcfdadgijnmemaaDoor
open Go.RowKit Go.Shelf
set_option linter.unusedVariables false
set_option linter.unusedSimpArgs false
attribute [local go_sem] Oper.semAt_some

/-- The first number of a set from k on, below 256 and not below a number. -/
def nxtN (p : Nat → Bool) (a : Int) : Nat → Option Nat
  | 0 => none
  | k + 1 => if p (255 - k) && decide (a ≤ ((255 - k : Nat) : Int)) then some (255 - k) else nxtN p a k
theorem nxtN_some (p : Nat → Bool) (a : Int) (k x : Nat) (hk : k ≤ 256) (h0 : 256 - k ≤ x) (hx : x < 256) (hp : p x = true) (ha : a ≤ x) (hl : ∀ c, 256 - k ≤ c → c < x → p c = true → ¬ a ≤ (c : Int)) : nxtN p a k = some x := by
  induction k with
  | zero => omega
  | succ k ih =>
    unfold nxtN
    by_cases e : 255 - k = x
    · rw [e, hp, decide_eq_true ha]; rfl
    · have hn : (p (255 - k) && decide (a ≤ ((255 - k : Nat) : Int))) = false := by
        cases hq : p (255 - k)
        · rfl
        · rw [decide_eq_false (hl _ (by omega) (by omega) hq)]; rfl
      rw [hn]
      exact ih (by omega) (by omega) (fun c h1 h2 => hl c (by omega) h2)
theorem nxtN_none (p : Nat → Bool) (a : Int) (k : Nat) (hk : k ≤ 256) (hl : ∀ c, 256 - k ≤ c → c < 256 → p c = true → ¬ a ≤ (c : Int)) : nxtN p a k = none := by
  induction k with
  | zero => rfl
  | succ k ih =>
    unfold nxtN
    have hn : (p (255 - k) && decide (a ≤ ((255 - k : Nat) : Int))) = false := by
      cases hq : p (255 - k)
      · rfl
      · rw [decide_eq_false (hl _ (by omega) (by omega) hq)]; rfl
    rw [hn]
    exact ih (by omega) (fun c h1 h2 => hl c (by omega) h2)
def nxtP (p : Nat → Bool) (a : Int) : Option Nat := nxtN p a 256
def nxtV : Option Nat → Int
  | some x => x
  | none => 0
def nxtE : Option Nat → Int
  | some _ => 0
  | none => 6
theorem Blk_kept {W W' : World} {row : Option Nat} {g : Nat} {t : TypeId} {cs : Array Value} (h : Blk W g t cs) (hg : W.grownBy W' row) (hr : ∀ r, row = some r → ∃ o : Obj, W.heap[r]? = some o ∧ o.isCells = false) : Blk W' g t cs :=
  h.grown hg (fun e => by
    obtain ⟨o, ho, hc⟩ := hr g e.symm
    unfold Blk at h
    rw [h] at ho
    cases ho
    simp [Obj.isCells] at hc)
theorem keeps_of_below {W W' : World} (h : Below W.heap.size W W') : KeepsOthers W W' :=
  ⟨h.size, fun k o hk _ => by rw [h.block k (Array.getElem?_eq_some_iff.1 hk).1]; exact hk⟩

set_option maxRecDepth 100000 in
set_option maxHeartbeats 2000000 in
theorem next_in (p : Nat → Bool) (a : Int) (w : World) (hT : TabOk w) (hw : 0 < w.heap.size) :
    CallsIn Fence.wide 3 Tryd.prog 33 #[Value.agg #[.int .u64 (setW p 0 : Int), .int .u64 (setW p 1 : Int), .int .u64 (setW p 2 : Int), .int .u64 (setW p 3 : Int)], .int .i64 a] w fun e W' => e = .returned (.tuple #[.int .i64 (nxtV (nxtP p a)), .int .i64 (nxtE (nxtP p a))]) ∧ Below w.heap.size w W' := by
  refine callsIn_of_wp_marks Tryd.func33 rfl trivial ?_ rfl
  simp only [Tryd.ntmps33, List.size_toArray, List.length_cons, List.length_nil, Nat.reduceAdd, Nat.reduceSub, Array.replicate_succ, Array.replicate_zero, List.push_toArray, List.append_toArray, List.nil_append, List.cons_append]
  gi_wp2_with (fail)
  refine ⟨trivial, (bytes_in _ p _).mono ?_⟩
  rintro e w' ⟨rfl, rfl⟩
  gi_wp2_with (fail)
  obtain ⟨w0, hw0⟩ : ∃ w0, w0 = (((w.alloc (.cells #[Value.int .u64 (setW p 0 : Int), .int .u64 (setW p 1 : Int), .int .u64 (setW p 2 : Int), .int .u64 (setW p 3 : Int)] 28)).alloc (.cells #[.int .i64 a] 3)).alloc (.cells #[.int .i64 0] 3)).alloc (.cells #[.int .i64 0] 29) := ⟨_, rfl⟩
  have b1 : Blk w0 (w.heap.size + 1) 3 #[.int .i64 a] := by rw [hw0]; simpa using ((Blk.new (w.alloc (.cells #[Value.int .u64 (setW p 0 : Int), .int .u64 (setW p 1 : Int), .int .u64 (setW p 2 : Int), .int .u64 (setW p 3 : Int)] 28)) 3 #[.int .i64 a]).alloc (.cells #[.int .i64 0] 3)).alloc (.cells #[.int .i64 0] 29)
  have b2 : Blk w0 (w.heap.size + 1 + 1) 3 #[.int .i64 0] := by rw [hw0]; simpa using (Blk.new ((w.alloc (.cells #[Value.int .u64 (setW p 0 : Int), .int .u64 (setW p 1 : Int), .int .u64 (setW p 2 : Int), .int .u64 (setW p 3 : Int)] 28)).alloc (.cells #[.int .i64 a] 3)) 3 #[.int .i64 0]).alloc (.cells #[.int .i64 0] 29)
  have b3 : Blk w0 (w.heap.size + 1 + 1 + 1) 29 #[.int .i64 0] := by rw [hw0]; simpa using Blk.new (((w.alloc (.cells #[Value.int .u64 (setW p 0 : Int), .int .u64 (setW p 1 : Int), .int .u64 (setW p 2 : Int), .int .u64 (setW p 3 : Int)] 28)).alloc (.cells #[.int .i64 a] 3)).alloc (.cells #[.int .i64 0] 3)) 29 #[.int .i64 0]
  have hB0 : Below w.heap.size w w0 := by rw [hw0]; exact gr_alloc (gr_alloc (gr_alloc (gr_alloc (Below.refl _ _) _) _) _) _
  have hsz : w0.heap.size = w.heap.size + 1 + 1 + 1 + 1 := by rw [hw0]; simp
  rw [← hw0]
  have bN := Blk.new w0 28 #[Value.int .u64 (setW p 0 : Int), .int .u64 (setW p 1 : Int), .int .u64 (setW p 2 : Int), .int .u64 (setW p 3 : Int)]
  rw [hsz] at bN
  have hB1 : Below w.heap.size w (w0.alloc (.cells #[Value.int .u64 (setW p 0 : Int), .int .u64 (setW p 1 : Int), .int .u64 (setW p 2 : Int), .int .u64 (setW p 3 : Int)] 28)) := gr_alloc hB0 _
  refine wpIn_rangeFunc_ownG rfl (by decide) (gf := 53) (lb := #[.pointer (some ⟨w.heap.size + 1 + 1 + 1 + 1, 0, none⟩)]) rfl trivial (enters_of Tryd.func53 (by kernel_rfl) rfl)
    (iter_stops _ (by decide) (w.heap.size + 1 + 1 + 1 + 1) w.heap.size hw p _ bN (hT.below hB1 hw) hB1.size) belowK_t (belowK_b hB1.size) (Below.refl _ _) (fun _ => rfl)
    (fun pre W => ((∀ y ∈ pre, (y.val : Int) < a) ∧ Blk W (w.heap.size + 1) 3 #[.int .i64 a] ∧ Blk W (w.heap.size + 1 + 1) 3 #[.int .i64 0] ∧ Blk W (w.heap.size + 1 + 1 + 1) 29 #[.int .i64 0]) ∧ Below w.heap.size w W)
    (fun c pre W => (c = .ret ∧ ∃ q x, pre = q ++ [x] ∧ a ≤ (x.val : Int) ∧ (∀ y ∈ q, (y.val : Int) < a) ∧ Blk W (w.heap.size + 1 + 1) 3 #[.int .i64 (x.val : Int)] ∧ Blk W (w.heap.size + 1 + 1 + 1) 29 #[.int .i64 0]) ∧ Below w.heap.size w W)
    (OwnFrom.and (Own.from (fun s A B row hs hg hr => ⟨hs.1, Blk_kept hs.2.1 hg hr, Blk_kept hs.2.2.1 hg hr, Blk_kept hs.2.2.2 hg hr⟩) _) (ownFrom_below (Nat.le_refl _) hB1.size))
    (fun c => OwnFrom.and (Own.from (fun s A B row hs hg hr => by
      obtain ⟨h1, q, x, h2, h3, h4, h5, h6⟩ := hs
      exact ⟨h1, q, x, h2, h3, h4, Blk_kept h5 hg hr, Blk_kept h6 hg hr⟩) _) (ownFrom_below (Nat.le_refl _) hB1.size))
    ⟨⟨by simp, b1.alloc _, b2.alloc _, b3.alloc _⟩, hB1⟩
    (fun x => { tmps := #[Value.agg #[.int .u64 (setW p 0 : Int), .int .u64 (setW p 1 : Int), .int .u64 (setW p 2 : Int), .int .u64 (setW p 3 : Int)], .int .i64 a, .pointer (some ⟨w.heap.size, 0, none⟩), .pointer (some ⟨w.heap.size + 1, 0, none⟩), .pointer (some ⟨w.heap.size + 1 + 1, 0, none⟩), .pointer (some ⟨w.heap.size + 1 + 1 + 1, 0, none⟩), .int .u8 (x.val : Int), Value.agg #[.int .u64 (setW p 0 : Int), .int .u64 (setW p 1 : Int), .int .u64 (setW p 2 : Int), .int .u64 (setW p 3 : Int)], .func (.func 53) #[] #[.pointer (some ⟨w.heap.size + 1 + 1 + 1 + 1, 0, none⟩)], .int .u8 (x.val : Int), undef, undef, undef, undef, undef, undef], defers := [] }) ?assign ?body ?done ?stop
  case assign =>
    intro l x W K hK
    unfold encB
    gi_wp2
    exact hK
  case body =>
    rintro l pre x W ⟨⟨hp, d1, d2, d3⟩, hB⟩ hlt
    have hx := x.isLt
    have c1 := d1.cell' (i := 0) rfl
    have c2 := d2.cell' (i := 0) rfl
    have c3 := d3.cell' (i := 0) rfl
    have f2 := d2.frozen 0
    have f3 := d3.frozen 0
    have HD := Lib.hid (And.intro d1 (And.intro d2 (And.intro d3 (And.intro hB hp))))
    clear d1 d2 d3 hB hp
    by_cases hge : a ≤ (x.val : Int)
    · have HGE := Lib.hid hge
      gi_wp2
      obtain ⟨d1, d2, d3, hB, hp⟩ := HD.out
      refine ⟨((KeepsOthers.setCell _ _ _).trans (KeepsOthers.setCell _ _ _)).from _, ⟨rfl, pre, x, rfl, HGE.out, hp, (d2.set_ 0 _).far (by simp) _, (d3.far (by simp) _).set_ 0 _⟩, gr_set (gr_set hB (by simp; omega) _) (by simp; omega) _⟩
    · have hge2 : (x.val : Int) < a := by omega
      gi_wp2
      obtain ⟨d1, d2, d3, hB, hp⟩ := HD.out
      refine ⟨KeepsFrom.refl _ _, Below.refl _ _, ⟨?_, d1, d2, d3⟩, hB⟩
      intro y hy
      rcases List.mem_append.1 hy with h | h
      · exact hp y h
      · simp at h; subst h; exact hge2
  case done =>
    rintro D ys W hD rfl ⟨⟨hp, d1, d2, d3⟩, hB⟩ hK
    have c2 := d2.cell' (i := 0) rfl
    have c3 := d3.cell' (i := 0) rfl
    have f2 := d2.frozen 0
    have f3 := d3.frozen 0
    have HP := Lib.hid hp
    have HK := Lib.hid hK
    have HD := Lib.hid (And.intro d2 (And.intro d3 hB))
    clear hp hK d1 d2 d3 hB
    gi_wp2
    obtain ⟨d2, d3, hB⟩ := HD.out
    have hk2 := ((KeepsOthers.setCell W ⟨w.heap.size + 1 + 1, 0, none⟩ (.int .i64 0)).trans (KeepsOthers.setCell _ ⟨w.heap.size + 1 + 1 + 1, 0, none⟩ (.int .i64 6))).same D _ HK.out rfl
    refine ⟨by simp, .inl ⟨_, _, rfl, run_takeDeferred hk2, ?_⟩⟩
    have e2 := Blk_kept ((d2.set_ 0 (.int .i64 0)).far (p := ⟨w.heap.size + 1 + 1 + 1, 0, none⟩) (by simp) (.int .i64 6)) (grownBy_putObj' _ D (.deferred none)) (fun r e => by cases e; exact ⟨_, hk2, rfl⟩)
    have e3 := Blk_kept ((d3.far (p := ⟨w.heap.size + 1 + 1, 0, none⟩) (by simp) (.int .i64 0)).set_ 0 (.int .i64 6)) (grownBy_putObj' _ D (.deferred none)) (fun r e => by cases e; exact ⟨_, hk2, rfl⟩)
    have g2 := e2.cell' (i := 0) (v := .int .i64 0) rfl
    have g3 := e3.cell' (i := 0) (v := .int .i64 6) rfl
    refine ⟨.tuple #[.int .i64 0, .int .i64 6], by simp [results, Tryd.f33, go_sem, g2, g3], ?_, (gr_set (gr_set hB (by simp; omega) _) (by simp; omega) _).trans (belowK_b (w := w) (Nat.le_refl _) _ D _ _ (by simp [hsz] at hD; omega) hk2 rfl rfl)⟩
    have e : nxtP p a = none := nxtN_none p a 256 (Nat.le_refl _) (fun c _ hc hpc => by
      have := HP.out ⟨c, hc⟩ ((lstP_mem p 256 ⟨c, hc⟩).2 ⟨hc, hpc⟩)
      simpa using this)
    rw [e]; rfl
  case stop =>
    rintro D c pre W hD ⟨k, hk, hpre⟩ ⟨⟨rfl, q, x, rfl, hax, hq, d2, d3⟩, hB⟩ hK
    have HQ := Lib.hid (And.intro hax (And.intro hq hpre))
    clear hax hq hpre
    gi_wp2
    refine ⟨by simp, .inl ⟨_, _, rfl, run_takeDeferred hK, ?_⟩⟩
    have e2 := Blk_kept d2 (grownBy_putObj' _ D (.deferred none)) (fun r e => by cases e; exact ⟨_, hK, rfl⟩)
    have e3 := Blk_kept d3 (grownBy_putObj' _ D (.deferred none)) (fun r e => by cases e; exact ⟨_, hK, rfl⟩)
    have g2 := e2.cell' (i := 0) (v := .int .i64 (x.val : Int)) rfl
    have g3 := e3.cell' (i := 0) (v := .int .i64 0) rfl
    refine ⟨.tuple #[.int .i64 (x.val : Int), .int .i64 0], by simp [results, Tryd.f33, go_sem, g2, g3], ?_, hB.trans (belowK_b (w := w) (Nat.le_refl _) _ D _ _ (by simp [hsz] at hD; omega) hK rfl rfl)⟩
    obtain ⟨hax, hq, hpre⟩ := HQ.out
    have hxm : x ∈ lstP p k := by rw [← hpre]; simp
    have hxp := ((lstP_mem p k x).1 hxm)
    have e : nxtP p a = some x.val := nxtN_some p a 256 x.val (Nat.le_refl _) (by omega) x.isLt hxp.2 hax (fun c _ hc hpc hac => by
      have hcm : (⟨c, by have := x.isLt; omega⟩ : Fin 256) ∈ lstP p k := (lstP_mem p k _).2 ⟨by show c < k; omega, hpc⟩
      rw [← hpre] at hcm
      rcases List.mem_append.1 hcm with h | h
      · have := hq _ h
        simp at this
        omega
      · simp at h
        have := congrArg Fin.val h
        simp at this
        omega)
    rw [e]; rfl
end Go.Proofs.YtcfdadgijnmemaaDoor
