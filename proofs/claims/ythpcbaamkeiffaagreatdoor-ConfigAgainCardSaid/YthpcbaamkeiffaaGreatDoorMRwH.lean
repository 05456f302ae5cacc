/-
  A range over a function whose body may hold, or be held by, another one: a round may go on, or end the loop by a return; no condition.
  strings.SplitSeq at one byte, walked as an iterator: it yields the pieces, one after the other, until the consumer stops; no condition.
  row's lines, walked as an iterator over an iterator: it yields the lines with their offsets, until the consumer stops; no condition.
-/
import Derived.RangeFuncNested
import Derived.RangeFuncBound
import Derived.RangeFuncCalls
import Derived.RangeFuncLeaves
import Derived.RangeFuncWrites
import Derived.RangeFuncBox
import Derived.Shelf.Abstract
import Derived.Shelf.RegionOpen
import Derived.OwnWalkIn
import Derived.TacticsInMore
import Derived.LoopNIn
import Derived.LoopIn
import Derived.Test.YthpcbaamkeiffaaGreatDoorMRwFn
import Derived.Test.YthpcbaamkeiffaaGreatDoorMShelf
import Derived.Test.YthpcbaamkeiffaaGreatDoorMRwQt
namespace Go.Proofs.YthpcbaamkeiffaaGreatDoor
open Go.RowKit Go.Shelf
set_option linter.unusedVariables false

/-- J: what holds between the rounds; Y: at a yield; X: behind a round that ended the loop by a return; Z, ZX: when the iterator has returned. -/
theorem wpIn_range_stops {F : Fence} {n : Nat} {P : Program} {α : Type} {g : Operand} {ps : Array Tmp} {assign body : Code} {Q : Exit → Act → World → Prop} {a : Act} {w : World}
    (hro : F.round = none) (h1 : 1 ≤ n) {gf : Nat} {lb : Array Value} (hg : a.eval g = .func (.func gf) #[] lb) (hFg : F.fn gf) (eg : ∀ args w, (callFunc gf args).run P w = .ok (.enter gf args) w)
    {encs : α → Array Value} (hps : ∀ x, (encs x).size = ps.size) (Kp : World → World → Prop)
    (hKp : ∀ W W3 l r r' r2 r2', W.heap[l]? = some (.loop r) → W3.heap[l]? = some (.loop r2) → Kp (W.putObj l (.loop r')) W3 → Kp W (W3.putObj l (.loop r2')))
    (J Z X ZX : List α → World → Prop) (Y : List α → α → World → Prop)
    (hJ : ∀ xs W l r r', J xs W → w.heap.size < l → W.heap[l]? = some (.loop r) → J xs (W.putObj l (.loop r')))
    (hX : ∀ xs W l r r', X xs W → w.heap.size < l → W.heap[l]? = some (.loop r) → X xs (W.putObj l (.loop r')))
    (hY : ∀ xs x W l r r', Y xs x W → w.heap.size < l → W.heap[l]? = some (.loop r) → Y xs x (W.putObj l (.loop r')))
    (hZ : ∀ xs W l r r', Z xs W → w.heap.size < l → W.heap[l]? = some (.loop r) → Z xs (W.putObj l (.loop r')))
    (hZX : ∀ xs W l r r', ZX xs W → w.heap.size < l → W.heap[l]? = some (.loop r) → ZX xs (W.putObj l (.loop r')))
    (hstart : ∀ o o' : Obj, J [] ((w.alloc o).alloc o')) (a₁ : α → Act)
    (hit : ∀ (l : Nat) (R Rx : World → Prop), (∀ W W', R W → W'.heap[w.heap.size]? = W.heap[w.heap.size]? → W'.heap[w.heap.size + 1]? = W.heap[w.heap.size + 1]? → R W') →
      (∀ W W', Rx W → W'.heap[w.heap.size]? = W.heap[w.heap.size]? → W'.heap[w.heap.size + 1]? = W.heap[w.heap.size + 1]? → Rx W') →
      (∀ pre x W, Y pre x W → R W → YieldAt F (n - 1 - 1) P l (encs x) W fun e W' => (e = .returned (.bool true) ∧ J (pre ++ [x]) W' ∧ R W' ∧ KeepsFrom (w.heap.size + 2) W W' ∧ Kp W W') ∨ (e = .returned (.bool false) ∧ X (pre ++ [x]) W' ∧ Rx W' ∧ KeepsFrom (w.heap.size + 2) W W' ∧ Kp W W')) →
      ∀ W, J [] W → R W → CallsIn F (n - 1) P gf (#[.func (.yield l) #[] #[]] ++ lb) W fun e W' => (∃ v, e = .returned v) ∧ ((R W' ∧ ∃ xs, Z xs W') ∨ (Rx W' ∧ ∃ xs, ZX xs W')))
    (hassign : ∀ (l : Nat) (x : α) (W : World) (K : Act → World → Prop), K (a₁ x) W →
      assign.wpIn (F.inRound l) (n - 1 - 1) P (Exit.then K (fun _ _ _ => False)) { tmps := (ps.zip (encs x)).foldl (fun t (p, v) => t.setIfInBounds p v) a.tmps, defers := [] } W)
    (hbody : ∀ (l : Nat) (pre : List α) (x : α) (W : World), Y pre x W → body.wpIn (F.inRound l) (n - 1 - 1) P (fun e _ W' => (e = .normal ∧ KeepsFrom w.heap.size W W' ∧ J (pre ++ [x]) W' ∧ Kp W W') ∨ (e = .ret ∧ KeepsFrom w.heap.size W W' ∧ X (pre ++ [x]) W' ∧ Kp W W')) (a₁ x) W)
    (hdone : ∀ (D : Nat) (xs : List α) (W : World), w.heap.size ≤ D → Z xs W → W.heap[D]? = some (.deferred (some [])) → Q .normal { a with defers := { target := .collected D, args := #[] } :: a.defers } W)
    (hstop : ∀ (D : Nat) (xs : List α) (W : World), w.heap.size ≤ D → ZX xs W → W.heap[D]? = some (.deferred (some [])) → Code.ret.wpIn F n P Q { a with defers := { target := .collected D, args := #[] } :: a.defers } W) :
    (Code.rangeFunc g ps assign body).wpIn F n P Q a w := by
  refine wpIn_rangeFunc fun fn hfn => ?_
  rw [hro]
  -- the record of the loop, in any of its states; the block of what is deferred lies before it
  obtain ⟨rec, hrec⟩ : ∃ rec : LoopState → Option Code → Loop, rec = fun st pe => { state := st, pending := pe, fn, tmps := a.tmps, params := ps, assign, body, defers := w.heap.size } := ⟨_, rfl⟩
  have hD : ∀ W : World, W = (w.alloc (.deferred (some []))).alloc (.loop (rec .ready none)) → W.heap[w.heap.size + 1]? = some (.loop (rec .ready none)) ∧ W.heap[w.heap.size]? = some (.deferred (some [])) := by
    rintro W rfl
    refine ⟨?_, ?_⟩
    · have := World.alloc_heap_new (w.alloc (.deferred (some []))) (.loop (rec .ready none))
      rwa [World.size_alloc] at this
    · exact (Below.heap_alloc _ _ _ (by simp)).trans (World.alloc_heap_new w _)
  refine ⟨w.heap.size + 1, [{ target := .collected w.heap.size, args := #[] }], (w.alloc (.deferred (some []))).alloc (.loop (rec .ready none)), { target := .fn (.func gf) lb, args := #[.func (.yield (w.heap.size + 1)) #[] #[]] }, (w.alloc (.deferred (some []))).alloc (.loop (rec .ready none)), gf,
    #[.func (.yield (w.heap.size + 1)) #[] #[]] ++ lb, (w.alloc (.deferred (some []))).alloc (.loop (rec .ready none)), ?_, ?_, ?_, ?_, fun _ => h1, ?_⟩
  · rw [hrec]; exact run_enterLoop_outer _ _ _ _ _
  · simp only [resolve, hg]
    simp [go_sem]
  · intro f' hf'
    simp [Target.leads] at hf'
    subst hf'
    exact hFg
  · simp [invoke, go_sem, eg]
  have hsame : ∀ {W W' : World} {i : Nat} {o : Obj}, KeepsFrom w.heap.size W W' → w.heap.size ≤ i → W.heap[i]? = some o → o.isCells = false → W'.heap[i]? = some o := fun hk hi ho hc => hk.same _ _ hi ho hc
  refine (hit (w.heap.size + 1) (fun W => W.heap[w.heap.size + 1]? = some (.loop (rec .ready none)) ∧ W.heap[w.heap.size]? = some (.deferred (some []))) (fun W => W.heap[w.heap.size + 1]? = some (.loop (rec .done (some .ret))) ∧ W.heap[w.heap.size]? = some (.deferred (some [])))
    (fun W W' hr h1 h2 => ⟨h2.trans hr.1, h1.trans hr.2⟩) (fun W W' hr h1 h2 => ⟨h2.trans hr.1, h1.trans hr.2⟩) ?_ _ (hstart _ _) (hD _ rfl)).mono ?_
  · -- a round
    intro pre x W hy hr
    have hrun := run_yield (P := P) (args := encs x) hr.1 (by rw [hrec]; exact hps x)
    rw [hrec] at hrun
    refine ⟨fn, _, assign, body, hrun, roundIn_of_wpIn hfn (hassign _ x W _ ⟨_, run_beginRound hr.1 (by rw [hrec]), ?_⟩)⟩
    have hlt : w.heap.size + 1 < W.heap.size := (Array.getElem?_eq_some_iff.1 hr.1).1
    refine wpIn_mono (hbody _ pre x _ (hY _ _ _ _ _ _ hy (Nat.lt_succ_self _) hr.1)) ?_
    have kf : ∀ (o1 o2 : Obj) (W3 : World), KeepsFrom w.heap.size (W.putObj (w.heap.size + 1) o1) W3 → KeepsFrom (w.heap.size + 2) W (W3.putObj (w.heap.size + 1) o2) := by
      intro o1 o2 W3 hk
      refine ⟨?_, ?_⟩
      · have h1 := hk.size
        simp [World.putObj] at h1 ⊢
        exact h1
      · intro k o h2 ho hc
        rw [World.putObj_heap_other (by omega)]
        exact hk.same k o (by omega) ((World.putObj_heap_other (by omega)).trans ho) hc
    rintro e a3 W3 (⟨rfl, hk, hj, hkp⟩ | ⟨rfl, hk, hx, hkp⟩)
    · have b1 := hsame hk (by omega) (World.putObj_heap_same hlt) rfl
      have b2 := hsame hk (Nat.le_refl _) ((World.putObj_heap_other (by omega)).trans hr.2) rfl
      have hend := run_endRound (P := P) none b1
      refine ⟨_, _, hend, .inl ⟨rfl, hJ _ _ _ _ _ hj (Nat.lt_succ_self _) b1, ⟨?_, (World.putObj_heap_other (by omega)).trans b2⟩, kf _ _ W3 hk, hKp _ _ _ _ _ _ _ hr.1 b1 hkp⟩⟩
      · rw [World.putObj_heap_same (Array.getElem?_eq_some_iff.1 b1).1, hrec]
        rfl
    · have b1 := hsame hk (by omega) (World.putObj_heap_same hlt) rfl
      have b2 := hsame hk (Nat.le_refl _) ((World.putObj_heap_other (by omega)).trans hr.2) rfl
      have hend := run_endRound (P := P) (some .ret) b1
      refine ⟨_, _, hend, .inr ⟨rfl, hX _ _ _ _ _ hx (Nat.lt_succ_self _) b1, ⟨?_, (World.putObj_heap_other (by omega)).trans b2⟩, kf _ _ W3 hk, hKp _ _ _ _ _ _ _ hr.1 b1 hkp⟩⟩
      · rw [World.putObj_heap_same (Array.getElem?_eq_some_iff.1 b1).1, hrec]
        rfl
  · -- behind the iterator
    rintro e W2 ⟨⟨v, rfl⟩, ⟨hr, xs, hz⟩ | ⟨hr, xs, hz⟩⟩
    · have hend := run_endLoop (P := P) hr.1 (by rw [hrec]; simp)
      rw [hrec] at hend
      exact ⟨none, _, hend, hdone _ xs _ (Nat.le_refl _) (hZ _ _ _ _ _ hz (Nat.lt_succ_self _) hr.1) ((World.putObj_heap_other (by omega)).trans hr.2)⟩
    · have hend := run_endLoop (P := P) hr.1 (by rw [hrec]; simp)
      rw [hrec] at hend
      exact ⟨some .ret, _, hend, hstop _ xs _ (Nat.le_refl _) (hZX _ _ _ _ _ hz (Nat.lt_succ_self _) hr.1) ((World.putObj_heap_other (by omega)).trans hr.2)⟩
end Go.Proofs.YthpcbaamkeiffaaGreatDoor
namespace Go.Proofs.YthpcbaamkeiffaaGreatDoor
open Go.RowKit Go.Shelf
set_option linter.unusedVariables false
set_option linter.unusedSimpArgs false
attribute [local go_sem] Oper.semAt_some

theorem RoundIn_any {F : Fence} (hd : F.depth = none) {m m' : Nat} {P : Program} {l : Nat} {f : FuncId} {tmps : Array Value} {assign body : Code} {w : World} {R : Ending → World → Prop}
    (h : RoundIn F m P l f tmps assign body w R) : RoundIn F m' P l f tmps assign body w R := ⟨h.1, fun c cs _ => h.2 c cs (fun d e => by rw [hd] at e; cases e)⟩
theorem yield_any {F : Fence} (hd : F.depth = none) {m : Nat} (m' : Nat) {P : Program} {l : Nat} {args : Array Value} {W : World} {R : Ending → World → Prop} (h : YieldAt F m P l args W R) : YieldAt F m' P l args W R := by
  obtain ⟨fn, tmps, assign, body, hy, hR⟩ := h
  exact ⟨fn, tmps, assign, body, hy, RoundIn_any hd hR⟩

/-- What a consumer's state abides. -/
structure Stays {α : Type} (B0 : Nat) (K : List α → World → Prop) : Prop where
  set_ : ∀ xs W b t v u, K xs W → Blk W b t #[v] → (t = 9 ∨ t = 3) → B0 ≤ b → K xs (W.setCell ⟨b, 0, none⟩ u)
  alloc : ∀ xs W o, K xs W → K xs (W.alloc o)
  put : ∀ xs W k o o', K xs W → B0 ≤ k → W.heap[k]? = some o → o.isCells = false → K xs (W.putObj k o')
  drewN : ∀ xs W n, K xs W → K xs (W.drewN n)

/-- The three boxes of the iterator. -/
def SpBox (b1 b2 b3 : Nat) (c : UInt8) (rest : List UInt8) (W : World) : Prop := Blk W b1 9 #[.string ⟨#[c]⟩] ∧ Blk W b2 9 #[.string (mkB rest)] ∧ Blk W b3 3 #[.int .i64 0]
theorem SpBox.alloc {b1 b2 b3 : Nat} {c : UInt8} {rest : List UInt8} {W : World} (h : SpBox b1 b2 b3 c rest W) (o : Obj) : SpBox b1 b2 b3 c rest (W.alloc o) := ⟨h.1.alloc _, h.2.1.alloc _, h.2.2.alloc _⟩
theorem SpBox.put {b1 b2 b3 : Nat} {c : UInt8} {rest : List UInt8} {W : World} (h : SpBox b1 b2 b3 c rest W) (k : Nat) (o' : Obj) (h1 : b1 ≠ k) (h2 : b2 ≠ k) (h3 : b3 ≠ k) : SpBox b1 b2 b3 c rest (W.putObj k o') :=
  ⟨(World.putObj_heap_other h1).trans h.1, (World.putObj_heap_other h2).trans h.2.1, (World.putObj_heap_other h3).trans h.2.2⟩
theorem SpBox.grown {b1 b2 b3 : Nat} {c : UInt8} {rest : List UInt8} {W W' : World} (h : SpBox b1 b2 b3 c rest W) {row : Option Nat} (hg : W.grownBy W' row) (h1 : some b1 ≠ row) (h2 : some b2 ≠ row) (h3 : some b3 ≠ row) : SpBox b1 b2 b3 c rest W' :=
  ⟨h.1.grown hg h1, h.2.1.grown hg h2, h.2.2.grown hg h3⟩
theorem SpBox.store {b1 b2 b3 : Nat} {c : UInt8} {rest rest' : List UInt8} {W : World} (h : SpBox b1 b2 b3 c rest W) (h1 : b1 ≠ b2) (h3 : b3 ≠ b2) : SpBox b1 b2 b3 c rest' (W.setCell ⟨b2, 0, none⟩ (.string (mkB rest'))) :=
  ⟨h.1.far h1 _, h.2.1.set_ 0 _, h.2.2.far h3 _⟩
def encS1 (p : List UInt8) : Array Value := #[.string (mkB p)]
def SpJ (b1 b2 b3 : Nat) (c : UInt8) (l : List UInt8) (K : List (List UInt8) → World → Prop) (xs : List (List UInt8)) (W : World) : Prop :=
  K xs W ∧ SpBox b1 b2 b3 c (restN c l (xs.length - 1)) W
def SpY (b1 b2 b3 : Nat) (c : UInt8) (l : List UInt8) (K : List (List UInt8) → World → Prop) (xs : List (List UInt8)) (x : List UInt8) (W : World) : Prop :=
  K xs W ∧ SpBox b1 b2 b3 c (restN c l xs.length) W ∧ x = preL c (restN c l xs.length) ∧ xs = (splitL c l).take xs.length ∧ xs.length < (splitL c l).length
def SpZ (c : UInt8) (l : List UInt8) (K : List (List UInt8) → World → Prop) (xs : List (List UInt8)) (W : World) : Prop := K xs W ∧ xs = splitL c l
def boxLen (W : World) (b : Nat) : Nat := match W.cell? ⟨b, 0, none⟩ with
  | some (.string s) => s.size
  | _ => 0
theorem boxLen_at {W : World} {b : Nat} {r : List UInt8} (h : Blk W b 9 #[.string (mkB r)]) : boxLen W b = r.length := by
  unfold boxLen
  rw [h.cell' (i := 0) rfl]
  exact mkB_size r

set_option maxRecDepth 100000 in
set_option maxHeartbeats 4000000 in
theorem split_stops (n1 : Nat) (hn1 : 1 ≤ n1) (c : UInt8) (l : List UInt8) (hl : l.length ≤ 1000000000) (B0 : Nat) (K : List (List UInt8) → World → Prop) (hK : Stays B0 K) (lp b1 b2 b3 : Nat) (h12 : b1 ≠ b2) (h32 : b3 ≠ b2) (hB0 : B0 ≤ b2)
    (KX : List (List UInt8) → World → Prop) (R Rx : World → Prop) (hR : ∀ W v, R W → R (W.setCell ⟨b2, 0, none⟩ v))
    (hY : ∀ pre x W, SpY b1 b2 b3 c l K pre x W → R W → YieldAt Fence.wide (n1 - 1) Tryz.prog lp (encS1 x) W fun e W' => (e = .returned (.bool true) ∧ SpJ b1 b2 b3 c l K (pre ++ [x]) W' ∧ R W') ∨ (e = .returned (.bool false) ∧ KX (pre ++ [x]) W' ∧ Rx W'))
    (W : World) (h0 : SpJ b1 b2 b3 c l K [] W) (hRW : R W) :
    CallsIn Fence.wide n1 Tryz.prog 166 (#[.func (.yield lp) #[] #[]] ++ #[.pointer (some ⟨b1, 0, none⟩), .pointer (some ⟨b2, 0, none⟩), .pointer (some ⟨b3, 0, none⟩)]) W fun e W' => (∃ v, e = .returned v) ∧ ((R W' ∧ ∃ xs, SpZ c l K xs W') ∨ (Rx W' ∧ ∃ xs, KX xs W')) := by
  have HH := Lib.hid (And.intro hK (And.intro hR hY))
  clear hK hR hY
  have s1 := h0.2.1.cell' (i := 0) rfl
  have H0 := Lib.hid (And.intro h0 hRW)
  clear h0 hRW
  refine callsIn_of_wp Tryz.func166 rfl trivial ?_ rfl
  simp only [Tryz.ntmps166, List.size_toArray, List.length_cons, List.length_nil, Nat.reduceAdd, Nat.reduceSub, Array.replicate_succ, Array.replicate_zero, List.push_toArray, List.append_toArray, List.nil_append, List.cons_append]
  gi_wp2
  gi_loopw [] (fun wr => ∃ k : Nat, k < (splitL c l).length ∧ K ((splitL c l).take k) wr ∧ SpBox b1 b2 b3 c (restN c l k) wr ∧ R wr) (fun wr => boxLen wr b2)
  case atStart => exact ⟨0, List.length_pos_iff.2 (splitL_ne _ _), H0.out.1.1, H0.out.1.2, H0.out.2⟩
  case round =>
    obtain ⟨k, hk, hKk, hbx, hr⟩ := hrel
    have c1 := hbx.1.cell' (i := 0) rfl
    have c2 := hbx.2.1.cell' (i := 0) rfl
    have c3 := hbx.2.2.cell' (i := 0) rfl
    have f2 := hbx.2.1.frozen 0
    have hlt2 := hbx.2.1.lt
    have hlen : (restN c l k).length ≤ 1000000000 := Nat.le_trans (rest_len c l k) hl
    have hbl := boxLen_at hbx.2.1
    have hlk : ((splitL c l).take k).length = k := by rw [List.length_take]; omega
    obtain ⟨t1, t2, t3⟩ := split_take c l k hk
    have A := Lib.hid (And.intro hKk (And.intro hbx (And.intro hr (And.intro t1 (And.intro t2 (And.intro t3 hlk))))))
    clear hKk hbx hr t1 t2 t3
    have hix := ixL (mkB (restN c l k)) c
    rw [mkB_data, show Lib.indexB (mkB (restN c l k)) ⟨#[c]⟩ = Lib.indexByte (mkB (restN c l k)).data.toList c from Lib.index_one _ c] at hix
    have hyld : ∀ W, K ((splitL c l).take k) W → SpBox b1 b2 b3 c (restN c l k) W → R W → YieldAt Fence.wide (n1 - 1) Tryz.prog lp (encS1 (preL c (restN c l k))) W fun e W' => (e = .returned (.bool true) ∧ SpJ b1 b2 b3 c l K ((splitL c l).take (k + 1)) W' ∧ R W') ∨ (e = .returned (.bool false) ∧ KX ((splitL c l).take (k + 1)) W' ∧ Rx W') := by
      intro W a1 a2 a3
      have := HH.out.2.2 ((splitL c l).take k) (preL c (restN c l k)) W ⟨a1, by rw [hlk]; exact a2, by rw [hlk], by rw [hlk], by rw [hlk]; exact hk⟩ a3
      rw [← A.out.2.2.2.1] at this
      exact this
    have HYL := Lib.hid hyld
    clear hyld
    rcases hix with ⟨e, hn⟩ | ⟨o, e, ho, hsp, hn⟩
    · have hpre := (pre_none hn).1
      have hfin := A.out.2.2.2.2.2.1 hn
      have HE := Lib.hid (And.intro hn hfin)
      clear hn
      gi_wp2
      refine ⟨trivial, (callsIn_wide.2 (Tryz.strings_Index_one _ _ _)).mono ?_⟩
      rintro e' W1 ⟨rfl, rfl⟩
      rw [e]
      obtain ⟨fn, tmps, assign, body, hy, hRd⟩ := HYL.out _ A.out.1 A.out.2.1 A.out.2.2.1
      rw [hpre] at hy
      simp only [encS1] at hy
      gi_wp2
      refine hRd.mono ?_
      rintro e' W4 (⟨rfl, hj, hr'⟩ | ⟨rfl, hj, hr'⟩)
      · have H4 := Lib.hid (And.intro hj hr')
        clear hj hr' hy hRd
        gi_wp2
        go_end0
        refine ⟨⟨_, rfl⟩, .inl ⟨H4.out.2, splitL c l, ?_, rfl⟩⟩
        have := H4.out.1.1
        rw [HE.out.2, List.take_length] at this
        exact this
      · have H4 := Lib.hid (And.intro hj hr')
        clear hj hr' hy hRd
        gi_wp2
        go_end0
        exact ⟨⟨_, rfl⟩, .inr ⟨H4.out.2, _, H4.out.1⟩⟩
    · obtain ⟨p1, p2, p3⟩ := ext_pre _ c o hsp hn
      have hmore := A.out.2.2.2.2.1 p3
      have hps := posL_len p3
      have HE := Lib.hid (And.intro hmore (And.intro p1 p2))
      rw [mkB_size] at ho
      clear p1 p2 hsp hn
      have hlsz : (mkB (restN c l k)).size = (restN c l k).length := mkB_size _
      gi_wp2
      refine ⟨trivial, (callsIn_wide.2 (Tryz.strings_Index_one _ _ _)).mono ?_⟩
      rintro e' W1 ⟨rfl, rfl⟩
      rw [e]
      obtain ⟨fn, tmps, assign, body, hy, hRd⟩ := HYL.out _ A.out.1 A.out.2.1 A.out.2.2.1
      simp only [encS1] at hy
      rw [← HE.out.2.1] at hy
      gi_wp2
      refine hRd.mono ?_
      rintro e' W4 (⟨rfl, hj, hr'⟩ | ⟨rfl, hj, hr'⟩)
      rotate_left
      · have H4 := Lib.hid (And.intro hj hr')
        clear hj hr' hy hRd
        gi_wp2
        refine bodyPost_ret (results_none rfl _ _ _) rfl ?_
        exact ⟨⟨_, rfl⟩, .inr ⟨H4.out.2, _, H4.out.1⟩⟩
      have hbx4 : SpBox b1 b2 b3 c (restN c l k) W4 := by
        have := hj.2
        rw [List.length_take, Nat.min_eq_left (by omega), Nat.add_sub_cancel] at this
        exact this
      have d1 := hbx4.1.cell' (i := 0) rfl
      have d2 := hbx4.2.1.cell' (i := 0) rfl
      have g2 := hbx4.2.1.frozen 0
      have H4 := Lib.hid (And.intro hj (And.intro hr' hbx4))
      clear hj hr' hy hRd hbx4
      gi_wp2
      go_roundw
      case rel =>
        rw [HE.out.2.2]
        refine ⟨k + 1, hmore, HH.out.1.set_ _ _ _ _ _ _ H4.out.1.1 H4.out.2.2.2.1 (.inl rfl) hB0, ?_, ?_⟩
        · exact H4.out.2.2.store h12 h32
        · exact HH.out.2.1 _ _ H4.out.2.1
      case measure =>
        rw [HE.out.2.2, hbl]
        have := boxLen_at (H4.out.2.2.store (rest' := posL c (restN c l k)) h12 h32).2.1
        rw [this]
        exact hps
end Go.Proofs.YthpcbaamkeiffaaGreatDoor
namespace Go.Proofs.YthpcbaamkeiffaaGreatDoor
open Go.RowKit Go.Shelf
set_option linter.unusedVariables false
set_option linter.unusedSimpArgs false
attribute [local go_sem] Oper.semAt_some

set_option maxHeartbeats 1000000 in
theorem wsplitseq (s c : ByteArray) (w : World) :
    Calls Tryz.prog 120 #[.string s, .string c] w fun e W' => e = .returned (.func (.func 166) #[] #[.pointer (some ⟨w.heap.size + 1, 0, none⟩), .pointer (some ⟨w.heap.size, 0, none⟩), .pointer (some ⟨w.heap.size + 2, 0, none⟩)]) ∧
      W' = ((w.alloc (.cells #[.string s] 9)).alloc (.cells #[.string c] 9)).alloc (.cells #[.int .i64 0] 3) := by
  have hmf : ∀ (fn : Fn) (first cap : Array Value) (w : World), (Instr.makeFunc fn first cap).run Tryz.prog w = .ok (.func fn first cap) w := fun _ _ _ _ => rfl
  have h1 : Calls Tryz.prog 148 #[.string s, .string c, .int .i64 0] w fun e W' => e = .returned (.func (.func 166) #[] #[.pointer (some ⟨w.heap.size + 1, 0, none⟩), .pointer (some ⟨w.heap.size, 0, none⟩), .pointer (some ⟨w.heap.size + 2, 0, none⟩)]) ∧
      W' = ((w.alloc (.cells #[.string s] 9)).alloc (.cells #[.string c] 9)).alloc (.cells #[.int .i64 0] 3) := by
    go_enter Tryz.func148, Tryz.ntmps148
    go_wp2_with (fail)
    go_ret
    exact ⟨by simp, rfl⟩
  have H1 := Lib.hid h1
  clear h1
  go_enter Tryz.func120, Tryz.ntmps120
  go_wp2_with (fail)
  refine H1.out.mono ?_
  rintro e W1 ⟨rfl, rfl⟩
  go_wp2_with (fail)
  go_ret
  exact ⟨rfl, rfl⟩

set_option maxHeartbeats 1000000 in
theorem wlines (s : ByteArray) (w : World) :
    Calls Tryz.prog 97 #[.string s] w fun e W' => e = .returned (.func (.func 119) #[] #[.pointer (some ⟨w.heap.size, 0, none⟩)]) ∧ W' = w.alloc (.cells #[.string s] 9) := by
  have hmf : ∀ (fn : Fn) (first cap : Array Value) (w : World), (Instr.makeFunc fn first cap).run Tryz.prog w = .ok (.func fn first cap) w := fun _ _ _ _ => rfl
  go_enter Tryz.func97, Tryz.ntmps97
  go_wp2_with (fail)
  go_ret
  exact ⟨rfl, rfl⟩

/-- Where the lines begin. -/
def offs : Nat → List (List UInt8) → Nat
  | o, [] => o
  | o, p :: ps => offs (o + p.length + 1) ps
def mkO : Nat → List (List UInt8) → List (Nat × List UInt8)
  | _, [] => []
  | o, p :: ps => (o, p) :: mkO (o + p.length + 1) ps
theorem offs_snoc (xs : List (List UInt8)) (x : List UInt8) : ∀ o, offs o (xs ++ [x]) = offs o xs + x.length + 1 := by
  induction xs with
  | nil => intro o; rfl
  | cons p ps ih => intro o; exact ih _
theorem mkO_snoc (xs : List (List UInt8)) (x : List UInt8) : ∀ o, mkO o (xs ++ [x]) = mkO o xs ++ [(offs o xs, x)] := by
  induction xs with
  | nil => intro o; rfl
  | cons p ps ih => intro o; show (o, p) :: mkO _ (ps ++ [x]) = _; rw [ih]; rfl
theorem mkO_map (xs : List (List UInt8)) : ∀ o, (mkO o xs).map (·.2) = xs := by
  induction xs with
  | nil => intro o; rfl
  | cons p ps ih => intro o; show p :: (mkO _ ps).map _ = _; rw [ih]
theorem offs_le {xs r : List (List UInt8)} {l : List UInt8} (h : xs ++ r = splitL 10 l) : offs 0 xs ≤ l.length + 1 := by
  have key : ∀ (l : List UInt8) (o : Nat), offs o (splitL 10 l) = o + l.length + 1 := by
    intro l
    induction l with
    | nil => intro o; rfl
    | cons a t ih =>
      intro o
      by_cases e : a = 10
      · subst e; rw [splitL_at]; show offs (o + 0 + 1) _ = _; rw [ih]; simp; omega
      · cases hs : splitL 10 t with
        | nil => exact absurd hs (splitL_ne 10 t)
        | cons p ps =>
          rw [splitL_past t e hs]
          have := ih (o + 1)
          rw [hs] at this
          show offs (o + (p.length + 1) + 1) ps = _
          have e2 : offs (o + 1) (p :: ps) = offs (o + 1 + p.length + 1) ps := rfl
          rw [e2] at this
          rw [show o + (p.length + 1) + 1 = o + 1 + p.length + 1 by omega, this]
          simp; omega
  have mono : ∀ (r : List (List UInt8)) (o : Nat), o ≤ offs o r := by
    intro r
    induction r with
    | nil => intro o; exact Nat.le_refl _
    | cons p ps ih => intro o; have := ih (o + p.length + 1); show o ≤ offs (o + p.length + 1) ps; omega
  have app : ∀ (xs r : List (List UInt8)) (o : Nat), offs o (xs ++ r) = offs (offs o xs) r := by
    intro xs
    induction xs with
    | nil => intro r o; rfl
    | cons p ps ih => intro r o; exact ih r _
  have h1 := app xs r 0
  rw [h, key l 0] at h1
  have := mono r (offs 0 xs)
  omega

def encs2 (x : Nat × List UInt8) : Array Value := #[.int .i64 (x.1 : Int), .string (mkB x.2)]
def LnJ (N0 bq : Nat) (l : List UInt8) (K : List (Nat × List UInt8) → World → Prop) (ys : List (Nat × List UInt8)) (W : World) : Prop := K ys W ∧ Blk W bq 9 #[.string (mkB l)] ∧ N0 ≤ W.heap.size
/-- At a line. -/
def LnP (l : List UInt8) (ys : List (Nat × List UInt8)) (x : Nat × List UInt8) : Prop := ∃ xs r, ys = mkO 0 xs ∧ x.1 = offs 0 xs ∧ xs ++ x.2 :: r = splitL 10 l
def LnY (N0 bq : Nat) (l : List UInt8) (K : List (Nat × List UInt8) → World → Prop) (ys : List (Nat × List UInt8)) (x : Nat × List UInt8) (W : World) : Prop := LnJ N0 bq l K ys W ∧ LnP l ys x
def LnZ (l : List UInt8) (K : List (Nat × List UInt8) → World → Prop) (ys : List (Nat × List UInt8)) (W : World) : Prop := K ys W ∧ ys = mkO 0 (splitL 10 l)
/-- What a round keeps: the iterators' boxes. -/
def KpL (W W' : World) : Prop := ∀ k t cs, Blk W k t cs → t = 9 ∨ t = 3 ∨ t = 169 → Blk W' k t cs
theorem kpL_put : ∀ W W3 l r r' r2 r2', W.heap[l]? = some (.loop r) → W3.heap[l]? = some (.loop r2) → KpL (W.putObj l (.loop r')) W3 → KpL W (W3.putObj l (.loop r2')) := by
  intro W W3 l r r' r2 r2' h1 h2 h k t cs hb ht
  have hne : k ≠ l := by rintro rfl; unfold Blk at hb; rw [h1] at hb; cases hb
  exact (World.putObj_heap_other hne).trans (h k t cs ((World.putObj_heap_other hne).trans hb) ht)
/-- What the inner loop's consumer knows. -/
def KinL (N0 bq bt ba lp : Nat) (l : List UInt8) (K : List (Nat × List UInt8) → World → Prop) (R : World → Prop) (xs : List (List UInt8)) (W : World) : Prop :=
  LnJ N0 bq l K (mkO 0 xs) W ∧ R W ∧ Blk W bt 169 #[.func (.yield lp) #[] #[]] ∧ Blk W ba 3 #[.int .i64 (offs 0 xs : Int)] ∧ (∃ r, xs ++ r = splitL 10 l)

theorem kinL_stays {N0 bq bt ba lp B0 M : Nat} {l : List UInt8} {K : List (Nat × List UInt8) → World → Prop} {R : World → Prop} (hK : Stays B0 K) (hB : B0 ≤ bt + 2) (hN : N0 ≤ bt + 2) (hM : M + 2 = N0) (hq : bq < bt + 2) (ha : ba = bt + 1)
    (hR : ∀ W W', R W → W'.heap[M]? = W.heap[M]? → W'.heap[M + 1]? = W.heap[M + 1]? → R W') : Stays (bt + 2) (KinL N0 bq bt ba lp l K R) where
  set_ := by
    rintro xs W b t v u ⟨⟨h1, h2, h3⟩, h4, h5, h6, h7⟩ hb ht hle
    refine ⟨⟨hK.set_ _ _ _ _ _ _ h1 hb ht (by omega), h2.far (by show bq ≠ b; omega) _, by simpa using h3⟩, hR _ _ h4 (Below.heap_setCell _ _ _ _ (by show M ≠ b; omega)) (Below.heap_setCell _ _ _ _ (by show M + 1 ≠ b; omega)), h5.far (by show bt ≠ b; omega) _, h6.far (by show ba ≠ b; omega) _, h7⟩
  alloc := by
    rintro xs W o ⟨⟨h1, h2, h3⟩, h4, h5, h6, h7⟩
    exact ⟨⟨hK.alloc _ _ _ h1, h2.alloc _, by simp; omega⟩, hR _ _ h4 (Below.heap_alloc _ _ _ (by omega)) (Below.heap_alloc _ _ _ (by omega)), h5.alloc _, h6.alloc _, h7⟩
  put := by
    rintro xs W k o o' ⟨⟨h1, h2, h3⟩, h4, h5, h6, h7⟩ hk ho hc
    exact ⟨⟨hK.put _ _ _ _ _ h1 (by omega) ho hc, (World.putObj_heap_other (by omega)).trans h2, by simpa [World.putObj] using h3⟩, hR _ _ h4 (World.putObj_heap_other (by omega)) (World.putObj_heap_other (by omega)), (World.putObj_heap_other (by omega)).trans h5, (World.putObj_heap_other (by omega)).trans h6, h7⟩
  drewN := by
    rintro xs W n ⟨⟨h1, h2, h3⟩, h4, h5, h6, h7⟩
    exact ⟨⟨hK.drewN _ _ _ h1, h2, h3⟩, hR _ _ h4 rfl rfl, h5, h6, h7⟩

set_option maxRecDepth 100000 in
set_option maxHeartbeats 4000000 in
theorem lines_iter (n1 : Nat) (hn1 : 3 ≤ n1) (l : List UInt8) (hl : l.length ≤ 1000000000) (B0 M : Nat) (K : List (Nat × List UInt8) → World → Prop) (hK : Stays B0 K) (lp bq : Nat) (hBM : B0 ≤ M) (hq : bq < M)
    (R Rx : World → Prop) (hR : ∀ W W', R W → W'.heap[M]? = W.heap[M]? → W'.heap[M + 1]? = W.heap[M + 1]? → R W') (hRx : ∀ W W', Rx W → W'.heap[M]? = W.heap[M]? → W'.heap[M + 1]? = W.heap[M + 1]? → Rx W')
    (KX : List (Nat × List UInt8) → World → Prop) (hKX : ∀ ys W k o o', KX ys W → B0 ≤ k → W.heap[k]? = some o → o.isCells = false → KX ys (W.putObj k o'))
    (hY : ∀ pre x W, LnY (M + 2) bq l K pre x W → R W → YieldAt Fence.wide (n1 - 1) Tryz.prog lp (encs2 x) W fun e W' => (e = .returned (.bool true) ∧ LnJ (M + 2) bq l K (pre ++ [x]) W' ∧ R W' ∧ KeepsFrom (M + 2) W W' ∧ KpL W W') ∨ (e = .returned (.bool false) ∧ KX (pre ++ [x]) W' ∧ Rx W' ∧ KeepsFrom (M + 2) W W' ∧ KpL W W'))
    (W : World) (h0 : LnJ (M + 2) bq l K [] W) (hRW : R W) :
    CallsIn Fence.wide n1 Tryz.prog 119 (#[.func (.yield lp) #[] #[]] ++ #[.pointer (some ⟨bq, 0, none⟩)]) W fun e W' => (∃ v, e = .returned v) ∧ ((R W' ∧ ∃ xs, LnZ l K xs W') ∨ (Rx W' ∧ ∃ xs, KX xs W')) := by
  have hz := h0.2.2
  have q1 := ((h0.2.1.alloc (.cells #[.func (.yield lp) #[] #[]] 169)).alloc (.cells #[.int .i64 0] 3)).cell' (i := 0) rfl
  have bt0 := (Blk.new W 169 #[.func (.yield lp) #[] #[]]).alloc (.cells #[.int .i64 0] 3)
  have ba0 : Blk ((W.alloc (.cells #[.func (.yield lp) #[] #[]] 169)).alloc (.cells #[.int .i64 0] 3)) (W.heap.size + 1) 3 #[.int .i64 0] := blk_at (by simp)
  have S0 := kinL_stays (M := M) (N0 := M + 2) (bt := W.heap.size) (ba := W.heap.size + 1) (bq := bq) (lp := lp) (l := l) hK (by omega) (by omega) rfl (by omega) rfl hR
  have h1n : 1 ≤ n1 := by omega
  have H0 := Lib.hid (And.intro h0 (And.intro hRW (And.intro bt0 (And.intro ba0 (And.intro hR (And.intro hY (And.intro S0 (And.intro hK (And.intro hRx hKX)))))))))
  clear h0 hRW bt0 ba0 hR hY hK S0 hRx hKX
  refine callsIn_of_wp_marks Tryz.func119 rfl trivial ?_ rfl
  simp only [Tryz.ntmps119, List.size_toArray, List.length_cons, List.length_nil, Nat.reduceAdd, Nat.reduceSub, Array.replicate_succ, Array.replicate_zero, List.push_toArray, List.append_toArray, List.nil_append, List.cons_append]
  gi_wp2_with (fail)
  refine ⟨by first | trivial | exact fun _ => by omega, (callsIn_wide.2 (wsplitseq (mkB l) ⟨#[10]⟩ _)).mono ?_⟩
  rintro e w' ⟨rfl, hw'⟩
  obtain ⟨w1, hw1⟩ : ∃ w1, w1 = w' := ⟨_, rfl⟩
  have hszA : ((W.alloc (.cells #[.func (.yield lp) #[] #[]] 169)).alloc (.cells #[.int .i64 0] 3)).heap.size = W.heap.size + 2 := by simp
  rw [hszA]
  have hsz : w1.heap.size = W.heap.size + 5 := by rw [hw1, hw']; simp
  have k1 : KinL (M + 2) bq W.heap.size (W.heap.size + 1) lp l K R [] w1 := by
    rw [hw1, hw']
    refine H0.out.2.2.2.2.2.2.1.alloc _ _ _ (H0.out.2.2.2.2.2.2.1.alloc _ _ _ (H0.out.2.2.2.2.2.2.1.alloc _ _ _ ⟨⟨H0.out.2.2.2.2.2.2.2.1.alloc _ _ _ (H0.out.2.2.2.2.2.2.2.1.alloc _ _ _ H0.out.1.1), (H0.out.1.2.1.alloc _).alloc _, by simp; omega⟩, ?_, H0.out.2.2.1, H0.out.2.2.2.1, ⟨_, rfl⟩⟩))
    refine H0.out.2.2.2.2.1 _ _ H0.out.2.1 ?_ ?_
    · exact (Below.heap_alloc _ _ _ (by simp; omega)).trans (Below.heap_alloc _ _ _ (by omega))
    · exact (Below.heap_alloc _ _ _ (by simp; omega)).trans (Below.heap_alloc _ _ _ (by omega))
  have x1 : SpBox (W.heap.size + 2 + 1) (W.heap.size + 2) (W.heap.size + 2 + 2) 10 l w1 := by
    rw [hw1, hw']
    exact ⟨(blk_at (by simp)).alloc _, ((blk_at (by simp)).alloc _).alloc _, blk_at (by simp)⟩
  rw [← hw1]
  have K1 := Lib.hid (And.intro k1 x1)
  clear hw' hw1 k1 x1 hszA
  gi_wp2_with (fail)
  refine wpIn_range_stops rfl (by omega) (gf := 166) (lb := #[.pointer (some ⟨W.heap.size + 2 + 1, 0, none⟩), .pointer (some ⟨W.heap.size + 2, 0, none⟩), .pointer (some ⟨W.heap.size + 2 + 2, 0, none⟩)]) rfl trivial (enters_of Tryz.func166 (by kernel_rfl) rfl) (encs := encS1) (fun _ => rfl)
    (fun _ _ => True) (fun _ _ _ _ _ _ _ _ _ _ => trivial)
    (SpJ (W.heap.size + 2 + 1) (W.heap.size + 2) (W.heap.size + 2 + 2) 10 l (KinL (M + 2) bq W.heap.size (W.heap.size + 1) lp l K R)) (SpZ 10 l (KinL (M + 2) bq W.heap.size (W.heap.size + 1) lp l K R))
    (fun xs X => KX (mkO 0 xs) X ∧ Rx X) (fun xs X => KX (mkO 0 xs) X ∧ Rx X)
    (SpY (W.heap.size + 2 + 1) (W.heap.size + 2) (W.heap.size + 2 + 2) 10 l (KinL (M + 2) bq W.heap.size (W.heap.size + 1) lp l K R)) ?hJ ?hX ?hY ?hZ ?hZX ?hstart
    (fun x => { tmps := #[.func (.yield lp) #[] #[], .pointer (some ⟨bq, 0, none⟩), .pointer (some ⟨W.heap.size, 0, none⟩), .pointer (some ⟨W.heap.size + 1, 0, none⟩), .string (mkB x), .string (mkB l), .func (.func 166) #[] #[.pointer (some ⟨W.heap.size + 2 + 1, 0, none⟩), .pointer (some ⟨W.heap.size + 2, 0, none⟩), .pointer (some ⟨W.heap.size + 2 + 2, 0, none⟩)], .string (mkB x), undef, undef, undef, undef, undef, undef, undef, undef, undef, undef], defers := [] }) ?hit ?assign ?body ?done ?stop
  case hJ =>
    rintro xs X k r r' ⟨h1, h2⟩ hl hr
    exact ⟨H0.out.2.2.2.2.2.2.1.put _ _ _ _ _ h1 (by omega) hr rfl, h2.put _ _ (by omega) (by omega) (by omega)⟩
  case hX =>
    rintro xs X k r r' ⟨h1, h2⟩ hl hr
    exact ⟨H0.out.2.2.2.2.2.2.2.2.2 _ _ _ _ _ h1 (by omega) hr rfl, H0.out.2.2.2.2.2.2.2.2.1 _ _ h2 (World.putObj_heap_other (by omega)) (World.putObj_heap_other (by omega))⟩
  case hZX =>
    rintro xs X k r r' ⟨h1, h2⟩ hl hr
    exact ⟨H0.out.2.2.2.2.2.2.2.2.2 _ _ _ _ _ h1 (by omega) hr rfl, H0.out.2.2.2.2.2.2.2.2.1 _ _ h2 (World.putObj_heap_other (by omega)) (World.putObj_heap_other (by omega))⟩
  case hY =>
    rintro xs x X k r r' ⟨h1, h2, h3⟩ hl hr
    exact ⟨H0.out.2.2.2.2.2.2.1.put _ _ _ _ _ h1 (by omega) hr rfl, h2.put _ _ (by omega) (by omega) (by omega), h3⟩
  case hZ =>
    rintro xs X k r r' ⟨h1, h2⟩ hl hr
    exact ⟨H0.out.2.2.2.2.2.2.1.put _ _ _ _ _ h1 (by omega) hr rfl, h2⟩
  case hstart =>
    intro o o'
    exact ⟨H0.out.2.2.2.2.2.2.1.alloc _ _ _ (H0.out.2.2.2.2.2.2.1.alloc _ _ _ K1.out.1), (K1.out.2.alloc _).alloc _⟩
  case hit =>
    intro li Ri Rxi hRi hRxi hYi X h0 hRX
    refine split_stops _ (by omega) 10 l hl _ _ H0.out.2.2.2.2.2.2.1 li _ _ _ (by omega) (by omega) (by omega) _ Ri Rxi (fun Y v hv => hRi _ _ hv (Below.heap_setCell _ _ _ _ (by show w1.heap.size ≠ W.heap.size + 2; omega)) (Below.heap_setCell _ _ _ _ (by show w1.heap.size + 1 ≠ W.heap.size + 2; omega))) ?_ X h0 hRX
    intro pre x Y hy hr
    refine (hYi pre x Y hy hr).mono fun e W' h => ?_
    rcases h with ⟨a1, a2, a3, _⟩ | ⟨a1, a2, a3, _⟩
    · exact .inl ⟨a1, a2, a3⟩
    · exact .inr ⟨a1, a2, a3⟩
  case assign =>
    intro l' x Y Kk hK
    unfold encS1
    gi_wp2
    exact hK
  case body =>
    rintro l' pre x Y ⟨⟨⟨h1, h2, h3⟩, h4, h5, h6, h7⟩, h8, h9, h10, h11⟩
    have t0 := h5.cell' (i := 0) rfl
    have t1 := h6.cell' (i := 0) rfl
    have hsp : pre ++ x :: (splitL 10 l).drop (pre.length + 1) = splitL 10 l := by
      have e1 := (split_take 10 l pre.length h11).1
      rw [← h9, ← h10] at e1
      have e2 := List.take_append_drop (pre.length + 1) (splitL 10 l)
      rw [e1] at e2
      rw [List.append_assoc] at e2
      exact e2
    have hof : offs 0 pre + x.length + 1 ≤ l.length + 1 := by
      have := offs_le (xs := pre ++ [x]) (r := (splitL 10 l).drop (pre.length + 1)) (l := l) (by rw [List.append_assoc]; exact hsp)
      rw [offs_snoc] at this
      exact this
    have hmk : (mkB x).size = x.length := mkB_size x
    obtain ⟨fn, tmps, assign, body, hy, hRd⟩ := yield_any rfl (n1 - 1 - 1 - 1) (H0.out.2.2.2.2.2.1 (mkO 0 pre) (offs 0 pre, x) Y ⟨⟨h1, h2, h3⟩, pre, _, rfl, rfl, hsp⟩ h4)
    simp only [encs2] at hy
    have HF := Lib.hid (And.intro h5 (And.intro h6 (And.intro h8 hsp)))
    have hsz0 : M + 2 ≤ W.heap.size := hz
    clear h1 h2 h3 h4 h5 h6 h7 h8 h9 h10 h11 hsp
    gi_wp2
    refine ⟨by first | trivial | exact fun _ => by omega, RoundIn.mono (F := Fence.wide.inRound l') hRd ?_⟩
    rintro e' W4 (⟨rfl, hj, hr', hk4, ho4⟩ | ⟨rfl, hj, hr', hk4, ho4⟩)
    · obtain ⟨h5, h6, h8, hsp⟩ := HF.out
      have g6 := ho4 _ _ _ h6 (.inr (.inl rfl))
      have u1 := g6.cell' (i := 0) rfl
      have uf := g6.frozen 0
      have ul := g6.lt
      have H4 := Lib.hid (And.intro hj (And.intro hr' (And.intro hk4 (And.intro ho4 g6))))
      clear hj hr' hk4 ho4 hy hRd h5 h6 h8 hsp g6
      gi_wp2
      obtain ⟨hj, hr', hk4, ho4, g6⟩ := H4.out
      obtain ⟨h5, h6, h8, hsp⟩ := HF.out
      have hoi : ((offs 0 (pre ++ [x]) : Nat) : Int) = (offs 0 pre : Int) + ((x.length : Int) + 1) := by rw [offs_snoc]; omega
      refine ⟨⟨by simpa using hk4.size, fun k o hk ho hc => ?_⟩, ⟨⟨⟨?_, ?_, ?_⟩, ?_, ?_, ?_, ⟨_, by rw [List.append_assoc]; exact hsp⟩⟩, ?_⟩⟩
      · rw [Below.heap_setCell _ _ _ _ (by
          rintro rfl
          have := hk4.same _ o (by show M + 2 ≤ W.heap.size + 1; omega) ho hc
          have h9 : W4.heap[W.heap.size + 1]? = some (.cells #[.int .i64 (offs 0 pre : Int)] 3 (0, 0)) := g6
          rw [h9] at this
          cases this
          cases hc)]
        exact hk4.same k o (by omega) ho hc
      · rw [mkO_snoc]
        exact H0.out.2.2.2.2.2.2.2.1.set_ _ _ _ _ _ _ hj.1 g6 (.inr rfl) (by omega)
      · exact hj.2.1.far (by show bq ≠ W.heap.size + 1; omega) _
      · simpa using hj.2.2
      · exact H0.out.2.2.2.2.1 _ _ hr' (Below.heap_setCell _ _ _ _ (by show M ≠ W.heap.size + 1; omega)) (Below.heap_setCell _ _ _ _ (by show M + 1 ≠ W.heap.size + 1; omega))
      · exact (ho4 _ _ _ h5 (.inr (.inr rfl))).far (by show W.heap.size ≠ W.heap.size + 1; omega) _
      · rw [hoi]
        exact g6.set_ 0 _
      · rw [List.length_append, List.length_singleton, Nat.add_sub_cancel]
        obtain ⟨s1, s2, s3⟩ := h8
        exact ⟨(ho4 _ _ _ s1 (.inl rfl)).far (by show W.heap.size + 2 + 1 ≠ W.heap.size + 1; omega) _, (ho4 _ _ _ s2 (.inl rfl)).far (by show W.heap.size + 2 ≠ W.heap.size + 1; omega) _, (ho4 _ _ _ s3 (.inr (.inl rfl))).far (by show W.heap.size + 2 + 2 ≠ W.heap.size + 1; omega) _⟩
    · have H4 := Lib.hid (And.intro hj (And.intro hr' hk4))
      clear hj hr' hk4 ho4 hy hRd
      gi_wp2
      obtain ⟨hj, hr', hk4⟩ := H4.out
      refine ⟨⟨hk4.size, fun k o hk ho hc => hk4.same k o (by omega) ho hc⟩, ?_, hr'⟩
      rw [mkO_snoc]
      exact hj
  case done =>
    rintro D xs Y hD ⟨⟨⟨h1, h2, h3⟩, h4, h5, h6⟩, rfl⟩ hKD
    have HZ := Lib.hid (And.intro h1 h4)
    clear h1 h2 h3 h4 h5 h6
    gi_wp2
    refine ⟨by simp, .inl ⟨_, _, rfl, run_takeDeferred hKD, ?_⟩⟩
    refine ⟨_, results_none rfl _ _ _, ⟨_, rfl⟩, .inl ⟨?_, _, H0.out.2.2.2.2.2.2.2.1.put _ _ _ _ _ HZ.out.1 (by omega) hKD rfl, rfl⟩⟩
    exact H0.out.2.2.2.2.1 _ _ HZ.out.2 (World.putObj_heap_other (by omega)) (World.putObj_heap_other (by omega))
  case stop =>
    rintro D xs Y hD ⟨h1, h2⟩ hKD
    have HZ := Lib.hid (And.intro h1 h2)
    clear h1 h2
    gi_wp2
    refine ⟨by simp, .inl ⟨_, _, rfl, run_takeDeferred hKD, ?_⟩⟩
    refine ⟨_, results_none rfl _ _ _, ⟨_, rfl⟩, .inr ⟨?_, _, H0.out.2.2.2.2.2.2.2.2.2 _ _ _ _ _ HZ.out.1 (by omega) hKD rfl⟩⟩
    exact H0.out.2.2.2.2.2.2.2.2.1 _ _ HZ.out.2 (World.putObj_heap_other (by omega)) (World.putObj_heap_other (by omega))
end Go.Proofs.YthpcbaamkeiffaaGreatDoor
