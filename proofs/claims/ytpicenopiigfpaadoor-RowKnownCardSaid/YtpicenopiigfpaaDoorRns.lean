/-
  A range over a function whose body may hold, or be held by, another one: a round may go on, or end the loop by a return; no condition.
-/
import Derived.Test.YtpicenopiigfpaaDoorBase
import Derived.RangeFuncNested
import Derived.RangeFuncBound
import Derived.RangeFuncCalls
import Derived.RangeFuncLeaves
import Derived.RangeFuncWrites
import Derived.RangeFuncBox
import Derived.Shelf.Abstract
import Derived.Shelf.RegionOpen
import Derived.OwnWalkIn
import Derived.TacticsInMore
import Derived.LoopNIn
import Derived.LoopIn
namespace Go.Proofs.YtpicenopiigfpaaDoor
open Go.RowKit Go.Shelf
set_option linter.unusedVariables false

/-- J: what holds between the rounds; Y: at a yield; X: behind a round that ended the loop by a return; Z, ZX: when the iterator has returned. -/
theorem wpIn_range_stops {F : Fence} {n : Nat} {P : Program} {α : Type} {g : Operand} {ps : Array Tmp} {assign body : Code} {Q : Exit → Act → World → Prop} {a : Act} {w : World}
    (hro : F.round = none) (h1 : 1 ≤ n) {gf : Nat} {lb : Array Value} (hg : a.eval g = .func (.func gf) #[] lb) (hFg : F.fn gf) (eg : ∀ args w, (callFunc gf args).run P w = .ok (.enter gf args) w)
    {encs : α → Array Value} (hps : ∀ x, (encs x).size = ps.size) (Kp : World → World → Prop)
    (hKp : ∀ W W3 l r r' r2 r2', W.heap[l]? = some (.loop r) → W3.heap[l]? = some (.loop r2) → Kp (W.putObj l (.loop r')) W3 → Kp W (W3.putObj l (.loop r2')))
    (J Z X ZX : List α → World → Prop) (Y : List α → α → World → Prop)
    (hJ : ∀ xs W l r r', J xs W → w.heap.size < l → W.heap[l]? = some (.loop r) → J xs (W.putObj l (.loop r')))
    (hX : ∀ xs W l r r', X xs W → w.heap.size < l → W.heap[l]? = some (.loop r) → X xs (W.putObj l (.loop r')))
    (hY : ∀ xs x W l r r', Y xs x W → w.heap.size < l → W.heap[l]? = some (.loop r) → Y xs x (W.putObj l (.loop r')))
    (hZ : ∀ xs W l r r', Z xs W → w.heap.size < l → W.heap[l]? = some (.loop r) → Z xs (W.putObj l (.loop r')))
    (hZX : ∀ xs W l r r', ZX xs W → w.heap.size < l → W.heap[l]? = some (.loop r) → ZX xs (W.putObj l (.loop r')))
    (hstart : ∀ o o' : Obj, J [] ((w.alloc o).alloc o')) (a₁ : α → Act)
    (hit : ∀ (l : Nat) (R Rx : World → Prop), (∀ W W', R W → W'.heap[w.heap.size]? = W.heap[w.heap.size]? → W'.heap[w.heap.size + 1]? = W.heap[w.heap.size + 1]? → R W') →
      (∀ W W', Rx W → W'.heap[w.heap.size]? = W.heap[w.heap.size]? → W'.heap[w.heap.size + 1]? = W.heap[w.heap.size + 1]? → Rx W') →
      (∀ pre x W, Y pre x W → R W → YieldAt F (n - 1 - 1) P l (encs x) W fun e W' => (e = .returned (.bool true) ∧ J (pre ++ [x]) W' ∧ R W' ∧ KeepsFrom (w.heap.size + 2) W W' ∧ Kp W W') ∨ (e = .returned (.bool false) ∧ X (pre ++ [x]) W' ∧ Rx W' ∧ KeepsFrom (w.heap.size + 2) W W' ∧ Kp W W')) →
      ∀ W, J [] W → R W → CallsIn F (n - 1) P gf (#[.func (.yield l) #[] #[]] ++ lb) W fun e W' => (∃ v, e = .returned v) ∧ ((R W' ∧ ∃ xs, Z xs W') ∨ (Rx W' ∧ ∃ xs, ZX xs W')))
    (hassign : ∀ (l : Nat) (x : α) (W : World) (K : Act → World → Prop), K (a₁ x) W →
      assign.wpIn (F.inRound l) (n - 1 - 1) P (Exit.then K (fun _ _ _ => False)) { tmps := (ps.zip (encs x)).foldl (fun t (p, v) => t.setIfInBounds p v) a.tmps, defers := [] } W)
    (hbody : ∀ (l : Nat) (pre : List α) (x : α) (W : World), Y pre x W → body.wpIn (F.inRound l) (n - 1 - 1) P (fun e _ W' => (e = .normal ∧ KeepsFrom w.heap.size W W' ∧ J (pre ++ [x]) W' ∧ Kp W W') ∨ (e = .ret ∧ KeepsFrom w.heap.size W W' ∧ X (pre ++ [x]) W' ∧ Kp W W')) (a₁ x) W)
    (hdone : ∀ (D : Nat) (xs : List α) (W : World), w.heap.size ≤ D → Z xs W → W.heap[D]? = some (.deferred (some [])) → Q .normal { a with defers := { target := .collected D, args := #[] } :: a.defers } W)
    (hstop : ∀ (D : Nat) (xs : List α) (W : World), w.heap.size ≤ D → ZX xs W → W.heap[D]? = some (.deferred (some [])) → Code.ret.wpIn F n P Q { a with defers := { target := .collected D, args := #[] } :: a.defers } W) :
    (Code.rangeFunc g ps assign body).wpIn F n P Q a w := by
  refine wpIn_rangeFunc fun fn hfn => ?_
  rw [hro]
  -- the record of the loop, in any of its states; the block of what is deferred lies before it
  obtain ⟨rec, hrec⟩ : ∃ rec : LoopState → Option Code → Loop, rec = fun st pe => { state := st, pending := pe, fn, tmps := a.tmps, params := ps, assign, body, defers := w.heap.size } := ⟨_, rfl⟩
  have hD : ∀ W : World, W = (w.alloc (.deferred (some []))).alloc (.loop (rec .ready none)) → W.heap[w.heap.size + 1]? = some (.loop (rec .ready none)) ∧ W.heap[w.heap.size]? = some (.deferred (some [])) := by
    rintro W rfl
    refine ⟨?_, ?_⟩
    · have := World.alloc_heap_new (w.alloc (.deferred (some []))) (.loop (rec .ready none))
      rwa [World.size_alloc] at this
    · exact (Below.heap_alloc _ _ _ (by simp)).trans (World.alloc_heap_new w _)
  refine ⟨w.heap.size + 1, [{ target := .collected w.heap.size, args := #[] }], (w.alloc (.deferred (some []))).alloc (.loop (rec .ready none)), { target := .fn (.func gf) lb, args := #[.func (.yield (w.heap.size + 1)) #[] #[]] }, (w.alloc (.deferred (some []))).alloc (.loop (rec .ready none)), gf,
    #[.func (.yield (w.heap.size + 1)) #[] #[]] ++ lb, (w.alloc (.deferred (some []))).alloc (.loop (rec .ready none)), ?_, ?_, ?_, ?_, fun _ => h1, ?_⟩
  · rw [hrec]; exact run_enterLoop_outer _ _ _ _ _
  · simp only [resolve, hg]
    simp [go_sem]
  · intro f' hf'
    simp [Target.leads] at hf'
    subst hf'
    exact hFg
  · simp [invoke, go_sem, eg]
  have hsame : ∀ {W W' : World} {i : Nat} {o : Obj}, KeepsFrom w.heap.size W W' → w.heap.size ≤ i → W.heap[i]? = some o → o.isCells = false → W'.heap[i]? = some o := fun hk hi ho hc => hk.same _ _ hi ho hc
  refine (hit (w.heap.size + 1) (fun W => W.heap[w.heap.size + 1]? = some (.loop (rec .ready none)) ∧ W.heap[w.heap.size]? = some (.deferred (some []))) (fun W => W.heap[w.heap.size + 1]? = some (.loop (rec .done (some .ret))) ∧ W.heap[w.heap.size]? = some (.deferred (some [])))
    (fun W W' hr h1 h2 => ⟨h2.trans hr.1, h1.trans hr.2⟩) (fun W W' hr h1 h2 => ⟨h2.trans hr.1, h1.trans hr.2⟩) ?_ _ (hstart _ _) (hD _ rfl)).mono ?_
  · -- a round
    intro pre x W hy hr
    have hrun := run_yield (P := P) (args := encs x) hr.1 (by rw [hrec]; exact hps x)
    rw [hrec] at hrun
    refine ⟨fn, _, assign, body, hrun, roundIn_of_wpIn hfn (hassign _ x W _ ⟨_, run_beginRound hr.1 (by rw [hrec]), ?_⟩)⟩
    have hlt : w.heap.size + 1 < W.heap.size := (Array.getElem?_eq_some_iff.1 hr.1).1
    refine wpIn_mono (hbody _ pre x _ (hY _ _ _ _ _ _ hy (Nat.lt_succ_self _) hr.1)) ?_
    have kf : ∀ (o1 o2 : Obj) (W3 : World), KeepsFrom w.heap.size (W.putObj (w.heap.size + 1) o1) W3 → KeepsFrom (w.heap.size + 2) W (W3.putObj (w.heap.size + 1) o2) := by
      intro o1 o2 W3 hk
      refine ⟨?_, ?_⟩
      · have h1 := hk.size
        simp [World.putObj] at h1 ⊢
        exact h1
      · intro k o h2 ho hc
        rw [World.putObj_heap_other (by omega)]
        exact hk.same k o (by omega) ((World.putObj_heap_other (by omega)).trans ho) hc
    rintro e a3 W3 (⟨rfl, hk, hj, hkp⟩ | ⟨rfl, hk, hx, hkp⟩)
    · have b1 := hsame hk (by omega) (World.putObj_heap_same hlt) rfl
      have b2 := hsame hk (Nat.le_refl _) ((World.putObj_heap_other (by omega)).trans hr.2) rfl
      have hend := run_endRound (P := P) none b1
      refine ⟨_, _, hend, .inl ⟨rfl, hJ _ _ _ _ _ hj (Nat.lt_succ_self _) b1, ⟨?_, (World.putObj_heap_other (by omega)).trans b2⟩, kf _ _ W3 hk, hKp _ _ _ _ _ _ _ hr.1 b1 hkp⟩⟩
      · rw [World.putObj_heap_same (Array.getElem?_eq_some_iff.1 b1).1, hrec]
        rfl
    · have b1 := hsame hk (by omega) (World.putObj_heap_same hlt) rfl
      have b2 := hsame hk (Nat.le_refl _) ((World.putObj_heap_other (by omega)).trans hr.2) rfl
      have hend := run_endRound (P := P) (some .ret) b1
      refine ⟨_, _, hend, .inr ⟨rfl, hX _ _ _ _ _ hx (Nat.lt_succ_self _) b1, ⟨?_, (World.putObj_heap_other (by omega)).trans b2⟩, kf _ _ W3 hk, hKp _ _ _ _ _ _ _ hr.1 b1 hkp⟩⟩
      · rw [World.putObj_heap_same (Array.getElem?_eq_some_iff.1 b1).1, hrec]
        rfl
  · -- behind the iterator
    rintro e W2 ⟨⟨v, rfl⟩, ⟨hr, xs, hz⟩ | ⟨hr, xs, hz⟩⟩
    · have hend := run_endLoop (P := P) hr.1 (by rw [hrec]; simp)
      rw [hrec] at hend
      exact ⟨none, _, hend, hdone _ xs _ (Nat.le_refl _) (hZ _ _ _ _ _ hz (Nat.lt_succ_self _) hr.1) ((World.putObj_heap_other (by omega)).trans hr.2)⟩
    · have hend := run_endLoop (P := P) hr.1 (by rw [hrec]; simp)
      rw [hrec] at hend
      exact ⟨some .ret, _, hend, hstop _ xs _ (Nat.le_refl _) (hZX _ _ _ _ _ hz (Nat.lt_succ_self _) hr.1) ((World.putObj_heap_other (by omega)).trans hr.2)⟩
end Go.Proofs.YtpicenopiigfpaaDoor
