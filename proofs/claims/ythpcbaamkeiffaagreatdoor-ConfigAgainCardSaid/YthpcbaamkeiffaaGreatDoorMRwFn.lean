/-
  The step from a walk of a law to its statement, once for all laws: the result is true, and what the arguments read they read behind the call; condition: the walk leaves what was there as it was.
  Small words on worlds, blocks and lists that the walks of this seat share: no program is in sight here; no condition.
  Escapes, as plain functions on lists of bytes: what percent and its reference compute; no program is in sight; no condition.
  A string's bytes by number, parts of strings, strings one behind the other; no program is in sight; no condition.
  Strings of lists; the pieces of a list between bytes of one kind: cut, found, counted; no program is in sight; no condition.
  Rows of texts, as plain functions on lists of bytes; no program is in sight; no condition.
-/
import Derived.WalkKit
import Derived.ProofKit
import Derived.OpenShut
import Derived.Lib.Hide
import Derived.Deep.Draws
import Derived.Deep.OwnRows
import Derived.Laws.Rows
import Derived.Laws.OwnMore
import Derived.Deep.QuietTactic
import Derived.Lib.Strings
import Derived.Lib.IndexBytes
import Derived.Lib.UnsafeStr
import Derived.Lib.BufferRead
import Derived.Lib.ConvBytes
import Derived.Lib.CutLaws
import Derived.Lib.IndexLaws
import Derived.Test.YthpcbaamkeiffaaGreatDoorRows
namespace Go.Proofs.YthpcbaamkeiffaaGreatDoor
open Go.ChangeShapes Go.WideShapes Go.ChangeAt Go.RowKit
set_option linter.unusedVariables false

theorem own : ownKnob Tryz.prog.godebug = none := by kernel_rfl
theorem laidOut : laidOutB Tryz.prog = true := by kernel_rfl

section
variable {H : Type} {enc : TypeId × Value → H} {P : Program}
theorem trodAll_stays (hl : laidOutB P = true) {W W' : World} (hb : Below W.heap.size W W') : ∀ (ts : List TypeId) (vs : List Value) (ds : List (DataW H)) (ps : List MemPlace),
    (∀ t ∈ ts, P.readableRec t = true ∧ t < P.types.size) → DataW.TrodAll enc P W 0 (fun _ => true) true ts vs ds ps → (∀ x ∈ ps, x.block < W.heap.size) →
    DataW.TrodAll enc P W' 0 (fun b => decide (b < W.heap.size)) true ts vs ds ps
  | [], vs, ds, ps, _, h, _ => by
    cases vs <;> cases ds <;> simp_all [DataW.TrodAll]
  | t :: ts, vs, ds, ps, ht, h, hp => by
    obtain ⟨v, vs', d, ds', p, q, rfl, rfl, rfl, h1, h2⟩ := trodAll_cons h
    exact trodAll_cons_mk (Below.trod hl (ht t (by simp)).1 (ht t (by simp)).2 h1 hb (fun x hx => hp x (by simp [hx])))
      (trodAll_stays hl hb ts vs' ds' q (fun u hu => ht u (by simp [hu])) h2 (fun x hx => hp x (by simp [hx])))

theorem law_post {f : Func} {s : ChangeSpec} {W W' : World} {args : Array Value} {ds gs : List (DataW H)} {before : List MemPlace} (hl : laidOutB P = true)
    (hts : ∀ t ∈ f.params.toList, P.readableRec t = true ∧ t < P.types.size)
    (hres : DataW.TrodAll enc P W' W.heap.size (fun _ => false) false f.resultTypes.toList ((Value.bool true).resultList f.resultTypes.size) [.lit (.bool true)] [])
    (hv : s.vars = []) (hfn : (s.fn H (ds ++ gs)) = { results := [.lit (.bool true)], args := ds })
    (hW : DataW.Whole enc P f.params.toList s.vars false W args.toList ds gs before) (hb : Below W.heap.size W W') :
    s.post enc P f false true false false W args (.bool true) W' := by
  have hlt : ∀ p ∈ before, p.block < W.heap.size := fun p hp => hW.lt p hp
  have hW' := hW
  obtain ⟨p, q, hA, hV, rfl, hz, hn⟩ := hW
  refine ⟨ds, gs, p ++ q, [], p, [], hW', ?_, ?_, ?_, hb.frame _, fun h => by cases h⟩
  · rw [hfn]; exact hres
  · rw [hfn]; exact trodAll_stays hl hb _ _ _ _ hts hA (fun x hx => hlt x (by simp [hx]))
  · rw [hfn, hv]; simp [DataW.TrodVars]
end
end Go.Proofs.YthpcbaamkeiffaaGreatDoor
namespace Go.Proofs.YthpcbaamkeiffaaGreatDoor
open Go.RowKit

theorem ret_int {k : IntKind} {a b : Int} (h : a = b) : Ending.returned (.int k a) = .returned (.int k b) := by rw [h]
theorem ret_bool {a b : Bool} (h : a = b) : Ending.returned (.bool a) = .returned (.bool b) := by rw [h]
theorem str_ext {a b : ByteArray} (h : a.data.toList = b.data.toList) : a = b := by
  cases a; cases b; simp_all [Array.toList_inj]

/-- Block g is just the cells cs, of element type t, none of them frozen. -/
def Blk (w : World) (g : Nat) (t : TypeId) (cs : Array Value) : Prop := w.heap[g]? = some (.cells cs t (0, 0))

section
variable {w w' : World} {g : Nat} {t : TypeId} {cs : Array Value}
theorem Blk.lt (h : Blk w g t cs) : g < w.heap.size := (Array.getElem?_eq_some_iff.1 h).1
theorem Blk.cell (h : Blk w g t cs) (i : Nat) : w.cell? ⟨g, i, none⟩ = cs[i]? := cell_of_row w g i cs t (0, 0) h
theorem Blk.cell' (h : Blk w g t cs) {i : Nat} {v : Value} (hv : cs[i]? = some v) : w.cell? ⟨g, i, none⟩ = some v := (h.cell i).trans hv
theorem Blk.frozen (h : Blk w g t cs) (i : Nat) : w.frozen? ⟨g, i, none⟩ = false := by
  unfold Blk at h
  simp [World.frozen?, h]
theorem Blk.new (w : World) (t : TypeId) (cs : Array Value) : Blk (w.alloc (.cells cs t)) w.heap.size t cs := heap_alloc_new w _
theorem Blk.drew (h : Blk w g t cs) : Blk w.drew g t cs := h
theorem Blk.drewN (h : Blk w g t cs) (n : Nat) : Blk (w.drewN n) g t cs := h
theorem Blk.alloc (h : Blk w g t cs) (o : Obj) : Blk (w.alloc o) g t cs := (Below.heap_alloc w o g h.lt).trans h
theorem Blk.set_ (h : Blk w g t cs) (i : Nat) (u : Value) : Blk (w.setCell ⟨g, i, none⟩ u) g t (cs.setIfInBounds i u) := by
  unfold Blk at h ⊢
  simp [World.setCell, Array.getElem?_modify, h]
theorem Blk.far (h : Blk w g t cs) {p : Addr} (hp : g ≠ p.block) (u : Value) : Blk (w.setCell p u) g t cs := (Below.heap_setCell w p u g hp).trans h
theorem Blk.below {B : Nat} (h : Blk w g t cs) (hb : Below B w w') (hg : g < B) : Blk w' g t cs := (hb.block g hg).trans h
theorem Blk.grown {row : Option Nat} (h : Blk w g t cs) (hb : w.grownBy w' row) (hg : some g ≠ row) : Blk w' g t cs := (hb.block g h.lt hg).trans h
theorem Blk.ne_ {g' : Nat} {t' : TypeId} {cs' : Array Value} (h : Blk w g t cs) (h' : Blk w g' t' cs') (hne : t ≠ t') : g ≠ g' := by
  rintro rfl
  unfold Blk at h h'
  rw [h] at h'
  injection h' with h'
  injection h' with _ ht
  exact hne ht
theorem own_blk_ne {base : Nat} {e : TypeId} {size n : Nat} {v : Value} {xs : List Value} (h : w.ownsRow base e size v n xs) (hg : Blk w g t cs) (hne : e ≠ t) : some g ≠ v.ownBlock := by
  rcases h.2 with ⟨rfl, _⟩ | ⟨g', cap, cur, rfl, _, hh, _⟩
  · simp [Value.ownBlock]
  · intro he
    have : g = g' := by simpa [Value.ownBlock] using he
    subst this
    exact Blk.ne_ (t := e) hh hg hne rfl
end

section
variable {a b c w : World} {row : Option Nat}
theorem only_refl (w : World) (row : Option Nat) : w.grownBy w row := ⟨rfl, rfl, rfl, Nat.le_refl _, fun _ _ _ => rfl⟩
theorem only_trans (h : a.grownBy b row) (k : b.grownBy c row) : a.grownBy c row :=
  ⟨k.os.trans h.os, k.tape.trans h.tape, k.output.trans h.output, Nat.le_trans h.size k.size, fun i hi hn => (k.block i (Nat.lt_of_lt_of_le hi h.size) hn).trans (h.block i hi hn)⟩
theorem only_drewN (h : a.grownBy w row) (n : Nat) : a.grownBy (w.drewN n) row := ⟨h.os, h.tape, h.output, h.size, h.block⟩
theorem only_drew (h : a.grownBy w row) : a.grownBy w.drew row := ⟨h.os, h.tape, h.output, h.size, h.block⟩
theorem only_alloc (h : a.grownBy w row) (o : Obj) : a.grownBy (w.alloc o) row :=
  ⟨h.os, h.tape, h.output, Nat.le_trans h.size (by simp), fun i hi hne => (Below.heap_alloc w o i (Nat.lt_of_lt_of_le hi h.size)).trans (h.block i hi hne)⟩
theorem only_setCell {g : Nat} (h : a.grownBy w (some g)) {p : Addr} (hp : p.block = g ∨ a.heap.size ≤ p.block) (u : Value) : a.grownBy (w.setCell p u) (some g) :=
  ⟨h.os, h.tape, h.output, by simpa [World.setCell] using h.size, fun i hi hne => (Below.heap_setCell w p u i (by
    rintro rfl
    rcases hp with hp | hp
    · exact hne (by rw [hp])
    · omega)).trans (h.block i hi hne)⟩
theorem only_of_below (h : Below a.heap.size a w) (row : Option Nat) : a.grownBy w row := ⟨h.os, h.tape, h.output, h.size, fun i hi _ => h.block i hi⟩
theorem below_drewN {B : Nat} (h : Below B a w) (n : Nat) : Below B a (w.drewN n) := ⟨h.os, h.tape, h.output, h.size, h.block⟩
end

theorem str_beq (a b : ByteArray) : (a.toList == b.toList) = decide (a = b) := by
  rw [Lib.toList_data, Lib.toList_data, Bool.eq_iff_iff]
  simp only [beq_iff_eq, decide_eq_true_eq]
  exact ⟨str_ext, fun h => by rw [h]⟩
/-- What is left of a string from i on begins with its byte at i. -/
theorem drop_at (s : ByteArray) (i : Nat) (h : i < s.size) : s.data.toList.drop i = s[i] :: s.data.toList.drop (i + 1) := by
  rw [List.drop_eq_getElem_cons (by simpa using h)]; rfl
theorem drop_end (s : ByteArray) (i : Nat) (h : s.size ≤ i) : s.data.toList.drop i = [] := List.drop_eq_nil_of_le (by simpa using h)
theorem take_at (s : ByteArray) (i : Nat) (h : i < s.size) : s.data.toList.take (i + 1) = s.data.toList.take i ++ [s[i]] := by
  rw [List.take_succ_eq_append_getElem (by simpa using h)]; rfl
theorem u8_bound (c : UInt8) : (c.toNat : Int) < 256 := by have := c.toNat_lt; omega
theorem u8_ext {a b : UInt8} (h : (a.toNat : Int) = b.toNat) : a = b := UInt8.toNat_inj.1 (by omega)
theorem size_data (s : ByteArray) : s.data.toList.length = s.size := by rw [Array.length_toList]; rfl
theorem ext_end (s : ByteArray) (a : Nat) : (s.extract a s.size).data.toList = s.data.toList.drop a := Lib.extract_to_end s a
theorem ext_take (s : ByteArray) (a : Nat) : (s.extract 0 a).data.toList = s.data.toList.take a := by rw [Lib.extract_data]; simp
theorem ext_end_size (s : ByteArray) (a : Nat) : (s.extract a s.size).size = s.size - a := by simp [ByteArray.size_extract]
/-- A call that leaves the world alone, inside a region that draws. -/
theorem quiet_left {P : Program} {f : FuncId} {args : Array Value} {w : World} {n : Nat} {v : Value}
    (h : Calls P f args (w.drewN n) fun e w' => e = .returned v ∧ w.drewN n = w') : Calls P f args (w.drewN n) fun e w'' => e = .returned v ∧ ∃ m, w'' = w.drewN m :=
  h.mono fun _ _ ⟨he, hw⟩ => ⟨he, n, hw.symm⟩
theorem quiet_add {P : Program} {f : FuncId} {args : Array Value} {w : World} {a n : Nat} {v : Value}
    (h : Calls P f args (w.drewN (a + n)) fun e w' => e = .returned v ∧ ∃ m, w' = (w.drewN (a + n)).drewN m) :
    Calls P f args (w.drewN (a + n)) fun e w'' => e = .returned v ∧ ∃ m, w'' = w.drewN (a + m) :=
  h.mono fun _ _ ⟨he, m, hm⟩ => ⟨he, n + m, by rw [hm, World.drewN_drewN, Nat.add_assoc]⟩
/-- 'string(b)' of bytes that the call owns. -/
theorem run_own_string {P : Program} {w : World} {src dst e : TypeId} {base : Nat} {v : Value} {n : Nat} {l : List UInt8} (hs : P.underlying src = some (.slice e)) (he : P.underlying e = some (.int .u8)) (hd : P.underlying dst = some .string)
    (hn : n = l.length) (hown : w.ownsRow base e 1 v n (Lib.byteCells l)) : (convert src dst v).run P w = .ok (.string ⟨l.toArray⟩) w := by
  subst hn
  rcases hown.2 with ⟨rfl, h0⟩ | ⟨g, cap, cur, rfl, _, hg, _, _, _, htk⟩
  · obtain rfl : l = [] := List.eq_nil_of_length_eq_zero h0
    exact Lib.run_convert_nil_bytes w src dst e 0 hs he hd
  · exact run_convert_bytes_back w src dst e ⟨g, 0, none⟩ cap l hs he hd (Lib.bytes_of_row hg (by simpa using htk))
theorem own_slice {w : World} {base : Nat} {e : TypeId} {size : Nat} {v : Value} {n : Nat} {xs : List Value} (h : w.ownsRow base e size v n xs) : ∃ a c, v = .slice a n c := by
  rcases h.2 with ⟨rfl, rfl⟩ | ⟨g, cap, cur, rfl, _⟩
  · exact ⟨_, _, rfl⟩
  · exact ⟨_, _, rfl⟩
theorem own_below {w w' : World} {base : Nat} {e : TypeId} {size : Nat} {v : Value} {n : Nat} {xs : List Value} {B : Nat} (h : w.ownsRow base e size v n xs) (hb : Below B w w') (hB : w.heap.size ≤ B) : w'.ownsRow base e size v n xs := by
  refine ⟨h.1, ?_⟩
  rcases h.2 with h2 | ⟨g, cap, cur, hv, hg, hh, r⟩
  · exact .inl h2
  · exact .inr ⟨g, cap, cur, hv, hg, by rw [hb.block g (Nat.lt_of_lt_of_le (Array.getElem?_eq_some_iff.1 hh).1 hB)]; exact hh, r⟩
theorem own_drewN {w : World} {base : Nat} {e : TypeId} {size : Nat} {v : Value} {n : Nat} {xs : List Value} (h : w.ownsRow base e size v n xs) (k : Nat) : (w.drewN k).ownsRow base e size v n xs := h
theorem own_setCell {w : World} {base : Nat} {e : TypeId} {size : Nat} {v : Value} {n : Nat} {xs : List Value} {t : TypeId} {cs : Array Value} {g i : Nat} (h : w.ownsRow base e size v n xs) (hb : Blk w g t cs) (hne : e ≠ t) (u : Value) : (w.setCell ⟨g, i, none⟩ u).ownsRow base e size v n xs :=
  h.kept (row := some g) ⟨rfl, rfl, rfl, by simp [World.setCell], fun k _ hk => Below.heap_setCell _ _ _ _ (fun e => hk (by simp [e]))⟩ (.inr (fun e => own_blk_ne h hb hne e.symm))
theorem own_grown {w w' : World} {base : Nat} {e : TypeId} {size : Nat} {v : Value} {n : Nat} {xs : List Value} {t : TypeId} {cs : Array Value} {g : Nat} (h : w.ownsRow base e size v n xs) (hb : Blk w g t cs) (hne : e ≠ t) (hg : w.grownBy w' (some g)) : w'.ownsRow base e size v n xs :=
  h.kept hg (.inr (fun e => own_blk_ne h hb hne e.symm))
/-- What 'append(x, v)' of one element reads: the new block of one cell. -/
theorem one_new {w : World} {n : Nat} (hn : n = w.heap.size) (v : Value) (e : TypeId) : ∀ j u, [v][j]? = some u → (w.alloc (.cells #[v] e)).cell? ((⟨n, 0, none⟩ : Addr).add j) = some u := by
  subst hn
  intro j u hj
  match j, hj with
  | 0, hj =>
    simp at hj
    subst hj
    exact (Blk.new w e #[v]).cell' rfl
theorem one_int (k : IntKind) (n : Int) : ∀ u ∈ [Value.int k n], u.oneCell' = true := by
  intro u hu
  simp at hu
  subst hu
  rfl
/-- Below B the world is as it was, but for block b. -/
structure BelowX (B b : Nat) (w w' : World) : Prop where
  os : w'.os = w.os
  tape : w'.tape = w.tape
  output : w'.output = w.output
  size : w.heap.size ≤ w'.heap.size
  block : ∀ k, k < B → k ≠ b → w'.heap[k]? = w.heap[k]?
section
variable {B b : Nat} {a c w w' : World}
theorem BelowX.refl (B b : Nat) (w : World) : BelowX B b w w := ⟨rfl, rfl, rfl, Nat.le_refl _, fun _ _ _ => rfl⟩
theorem BelowX.trans (h : BelowX B b a c) (k : BelowX B b c w) : BelowX B b a w :=
  ⟨k.os.trans h.os, k.tape.trans h.tape, k.output.trans h.output, Nat.le_trans h.size k.size, fun i hi hb => (k.block i hi hb).trans (h.block i hi hb)⟩
theorem BelowX.alloc (h : BelowX B b a w) (hB : B ≤ w.heap.size) (o : Obj) : BelowX B b a (w.alloc o) :=
  h.trans ⟨rfl, rfl, rfl, by simp, fun k hk _ => Below.heap_alloc _ _ _ (by omega)⟩
theorem BelowX.setCell (h : BelowX B b a w) {p : Addr} (hp : p.block = b ∨ B ≤ p.block) (u : Value) : BelowX B b a (w.setCell p u) :=
  h.trans ⟨rfl, rfl, rfl, by simp [World.setCell], fun k hk hb => Below.heap_setCell _ _ _ _ (by omega)⟩
theorem BelowX.drewN (h : BelowX B b a w) (n : Nat) : BelowX B b a (w.drewN n) := ⟨h.os, h.tape, h.output, h.size, h.block⟩
theorem BelowX.grown (h : BelowX B b a w) {row : Option Nat} (hg : w.grownBy w' row) (hB : B ≤ w.heap.size) (hr : ∀ k, row = some k → B ≤ k) : BelowX B b a w' :=
  h.trans ⟨hg.os, hg.tape, hg.output, hg.size, fun k hk _ => hg.block k (by omega) (fun e => by have := hr k e.symm; omega)⟩
theorem BelowX.of_below (h : Below B a w) (b : Nat) : BelowX B b a w := ⟨h.os, h.tape, h.output, h.size, fun k hk _ => h.block k hk⟩
theorem BelowX.below {B' : Nat} (h : BelowX B b a w) (hB : B' ≤ B) (hb : B' ≤ b) : Below B' a w := ⟨h.os, h.tape, h.output, h.size, fun k hk => h.block k (by omega) (by omega)⟩
theorem BelowX.mono {B' : Nat} (h : BelowX B b a w) (hB : B' ≤ B) : BelowX B' b a w := ⟨h.os, h.tape, h.output, h.size, fun k hk hb => h.block k (by omega) hb⟩
theorem BelowX.blk {g : Nat} {t : TypeId} {cs : Array Value} (h : BelowX B b a w) (hg : Blk a g t cs) (h1 : g < B) (h2 : g ≠ b) : Blk w g t cs := (h.block g h1 h2).trans hg
theorem BelowX.cell (h : BelowX B b a w) {p : Addr} (h1 : p.block < B) (h2 : p.block ≠ b) : w.cell? p = a.cell? p := World.cell?_of_block (w := a) (h.block p.block h1 h2)
end
/-- Every block of cells that is not b and no row of e's stands as it stood. -/
def Others (e : TypeId) (b : Nat) (w w' : World) : Prop := ∀ k t cs, Blk w k t cs → k ≠ b → t ≠ e → Blk w' k t cs
section
variable {e : TypeId} {b : Nat} {a c w w' : World}
theorem Others.refl (e : TypeId) (b : Nat) (w : World) : Others e b w w := fun _ _ _ h _ _ => h
theorem Others.trans (h : Others e b a c) (k : Others e b c w) : Others e b a w := fun i t cs hi hb ht => k i t cs (h i t cs hi hb ht) hb ht
theorem Others.alloc (h : Others e b a w) (o : Obj) : Others e b a (w.alloc o) := fun i t cs hi hb ht => (h i t cs hi hb ht).alloc o
theorem Others.drewN (h : Others e b a w) (n : Nat) : Others e b a (w.drewN n) := fun i t cs hi hb ht => (h i t cs hi hb ht).drewN n
theorem Others.setCell (h : Others e b a w) {p : Addr} (hp : p.block = b) (u : Value) : Others e b a (w.setCell p u) := fun i t cs hi hb ht => (h i t cs hi hb ht).far (by rw [hp]; exact hb) u
theorem Others.grown (h : Others e b a w) {base size n : Nat} {v : Value} {xs : List Value} (hown : w.ownsRow base e size v n xs) (hg : w.grownBy w' v.ownBlock) : Others e b a w' := fun i t cs hi hb ht =>
  (h i t cs hi hb ht).grown hg (own_blk_ne hown (h i t cs hi hb ht) (Ne.symm ht))
end
/-- What a call has made so far. -/
theorem gr_alloc {w W : World} (h : Below w.heap.size w W) (o : Obj) : Below w.heap.size w (W.alloc o) := h.alloc h.size o
theorem gr_call {w X W : World} (h : Below w.heap.size w X) (k : Below X.heap.size X W) : Below w.heap.size w W := h.trans (k.mono h.size)
theorem gr_drew {w W : World} (h : Below w.heap.size w W) : Below w.heap.size w W.drew := h.drew
theorem gr_set {w W : World} (h : Below w.heap.size w W) {p : Addr} (hp : w.heap.size ≤ p.block) (u : Value) : Below w.heap.size w (W.setCell p u) := h.setCell hp u
theorem Blk.call {X W : World} {g : Nat} {t : TypeId} {cs : Array Value} (h : Blk X g t cs) (k : Below X.heap.size X W) : Blk W g t cs := h.below k h.lt
theorem own_weaken {w : World} {base base' : Nat} {e : TypeId} {size : Nat} {v : Value} {n : Nat} {xs : List Value} (h : w.ownsRow base e size v n xs) (hb : base' ≤ base) : w.ownsRow base' e size v n xs := by
  refine ⟨h.1, ?_⟩
  rcases h.2 with h2 | ⟨g, cap, cur, hv, hg, r⟩
  · exact .inl h2
  · exact .inr ⟨g, cap, cur, hv, by omega, r⟩
end Go.Proofs.YthpcbaamkeiffaaGreatDoor
namespace Go.Proofs.YthpcbaamkeiffaaGreatDoor

/-- The value of a hexadecimal digit; -1 if it is none. -/
def hexv (c : UInt8) : Int :=
  if 48 ≤ (c.toNat : Int) ∧ (c.toNat : Int) ≤ 57 then (c.toNat : Int) - 48
  else if 65 ≤ (c.toNat : Int) ∧ (c.toNat : Int) ≤ 70 then (c.toNat : Int) - 55
  else if 97 ≤ (c.toNat : Int) ∧ (c.toNat : Int) ≤ 102 then (c.toNat : Int) - 87
  else -1
theorem hexv_bound (c : UInt8) : -1 ≤ hexv c ∧ hexv c ≤ 15 := by unfold hexv; split <;> (try split) <;> (try split) <;> omega
/-- The byte of two digits. -/
def escV (b c : UInt8) : UInt8 := (16 * hexv b + hexv c).toNat.toUInt8
theorem escV_int (b c : UInt8) (hb : 0 ≤ hexv b) (hc : 0 ≤ hexv c) : ((escV b c).toNat : Int) = 16 * hexv b + hexv c := by
  have h1 := hexv_bound b
  have h2 := hexv_bound c
  unfold escV
  rw [Nat.toUInt8_eq, UInt8.toNat_ofNat']
  omega
/-- What a list says up to its end or to the first escape that is none, how many bytes that took, and how many escapes they hold. -/
def scan : List UInt8 → List UInt8 × Nat × Nat
  | [] => ([], 0, 0)
  | a :: t =>
    if a = 37 then
      match t with
      | b :: c :: u => if 0 ≤ hexv b ∧ 0 ≤ hexv c then (escV b c :: (scan u).1, (scan u).2.1 + 3, (scan u).2.2 + 1) else ([], 0, 0)
      | _ => ([], 0, 0)
    else (a :: (scan t).1, (scan t).2.1 + 1, (scan t).2.2)
/-- Whether a string is said to its end; the fault; what it says. -/
def okS (s : ByteArray) : Prop := (scan s.data.toList).2.1 = s.size
instance (s : ByteArray) : Decidable (okS s) := inferInstanceAs (Decidable ((scan s.data.toList).2.1 = s.size))
end Go.Proofs.YthpcbaamkeiffaaGreatDoor
namespace Go.Proofs.YthpcbaamkeiffaaGreatDoor
set_option linter.unusedVariables false
set_option linter.unusedSimpArgs false

/-- The bytes of a string. -/
def byS (s : ByteArray) : Nat → Nat := fun i => (s.data.toList.getD i 0).toNat
theorem byS_lt (s : ByteArray) (i : Nat) : byS s i < 256 := (s.data.toList.getD i 0).toNat_lt
theorem byS_ext {s : ByteArray} {a b i : Nat} (h : a + i < b) (hb : b ≤ s.size) : byS (s.extract a b) i = byS s (a + i) := by
  unfold byS
  rw [Lib.extract_data]
  congr 1
  rw [List.getD_eq_getElem?_getD, List.getD_eq_getElem?_getD, List.getElem?_take, if_pos (by omega), List.getElem?_drop]
theorem ext_len {s : ByteArray} {a b : Nat} (hb : b ≤ s.size) : (s.extract a b).size = b - a := by
  rw [ByteArray.size_extract]; omega
theorem ext_ext {s : ByteArray} {a b c d : Nat} (h : a + d ≤ b) : (s.extract a b).extract c d = s.extract (a + c) (a + d) := by
  apply str_ext
  rw [Lib.extract_data, Lib.extract_data, Lib.extract_data, List.drop_take, List.drop_drop, List.take_take]
  congr 1
  omega
theorem byS_at {s : ByteArray} {i : Nat} (h : i < s.size) : s.data.toList[i]? = some (s.data.toList.getD i 0) := by
  rw [List.getD_eq_getElem?_getD, List.getElem?_eq_getElem (by rw [size_data]; exact h)]; rfl
theorem str_eq {s t : ByteArray} (hl : s.size = t.size) (h : ∀ i, i < s.size → byS s i = byS t i) : s = t := by
  apply str_ext
  apply List.ext_getElem?
  intro i
  by_cases hi : i < s.size
  · rw [byS_at hi, byS_at (by omega)]
    have := h i hi
    unfold byS at this
    rw [UInt8.toNat_inj.1 this]
  · rw [List.getElem?_eq_none (by rw [size_data]; omega), List.getElem?_eq_none (by rw [size_data]; omega)]
theorem get_byS (s : ByteArray) (i : Nat) (h : i < s.size) : (s[i]'h).toNat = byS s i := by
  unfold byS
  rw [List.getD_eq_getElem?_getD, List.getElem?_eq_getElem (by rw [size_data]; exact h)]
  rfl
theorem empty_of_size {s : ByteArray} (h : s.size = 0) : s = ⟨#[]⟩ := by
  apply str_ext
  apply List.eq_nil_of_length_eq_zero
  rw [size_data]; exact h
theorem ne_toList (u : ByteArray) (h : 0 < u.size) : u.data.toList ≠ [] := by
  intro e
  have := size_data u
  rw [e] at this
  simp at this
  omega
theorem nonempty_b (u : ByteArray) (h : 0 < u.size) : (u.toList == []) = false := by
  rw [Lib.toList_data]
  have := ne_toList u h
  cases e : u.data.toList with
  | nil => exact absurd e this
  | cons => rfl
theorem beq_lit (s : ByteArray) (l : List UInt8) : (s.toList == l) = decide (s = ⟨l.toArray⟩) := by
  rw [← str_beq s ⟨l.toArray⟩, Lib.toList_data ⟨l.toArray⟩]
end Go.Proofs.YthpcbaamkeiffaaGreatDoor
namespace Go.Proofs.YthpcbaamkeiffaaGreatDoor
set_option linter.unusedVariables false
set_option linter.unusedSimpArgs false

theorem u8_all {p : UInt8 → Prop} (h : ∀ n : Nat, n < 256 → p n.toUInt8) (c : UInt8) : p c := by
  have := h c.toNat c.toNat_lt
  rwa [show c.toNat.toUInt8 = c by simp] at this

/-- A string of a list. -/
def mkB (l : List UInt8) : ByteArray := ⟨l.toArray⟩
theorem mkB_data (l : List UInt8) : (mkB l).data.toList = l := by simp [mkB]
theorem mkB_size (l : List UInt8) : (mkB l).size = l.length := by show l.toArray.size = _; simp
theorem mkB_of (s : ByteArray) : mkB s.data.toList = s := by unfold mkB; simp
theorem mkB_append (a b : List UInt8) : mkB a ++ mkB b = mkB (a ++ b) := by
  apply str_ext
  rw [mkB_data]
  simp [mkB]

/-! Pieces. -/
def splitL (c : UInt8) : List UInt8 → List (List UInt8)
  | [] => [[]]
  | a :: t => if a = c then [] :: splitL c t else match splitL c t with
    | [] => [[a]]
    | p :: ps => (a :: p) :: ps
theorem splitL_ne (c : UInt8) (l : List UInt8) : splitL c l ≠ [] := by
  cases l with
  | nil => simp [splitL]
  | cons a t =>
    unfold splitL
    split
    · simp
    · split <;> simp
theorem splitL_at (c : UInt8) (t : List UInt8) : splitL c (c :: t) = [] :: splitL c t := by
  conv => lhs; unfold splitL
  rw [if_pos rfl]
theorem splitL_past {c x : UInt8} (t : List UInt8) (h : x ≠ c) {p : List UInt8} {ps : List (List UInt8)} (e : splitL c t = p :: ps) : splitL c (x :: t) = (x :: p) :: ps := by
  conv => lhs; unfold splitL
  rw [if_neg h, e]
theorem splitL_append (c : UInt8) (a b : List UInt8) : splitL c (a ++ c :: b) = splitL c a ++ splitL c b := by
  induction a with
  | nil => rw [List.nil_append, splitL_at]; rfl
  | cons x t ih =>
    rw [List.cons_append]
    by_cases h : x = c
    · subst h
      rw [splitL_at, splitL_at, ih, List.cons_append]
    · cases e : splitL c t with
      | nil => exact absurd e (splitL_ne c t)
      | cons p ps =>
        rw [e] at ih
        rw [splitL_past t h e, splitL_past _ h (ih.trans (List.cons_append ..)), List.cons_append]
theorem splitL_none {c : UInt8} {l : List UInt8} (h : c ∉ l) : splitL c l = [l] := by
  induction l with
  | nil => rfl
  | cons a t ih =>
    unfold splitL
    rw [if_neg (by rintro rfl; simp at h), ih (by simp at h; exact h.2)]
theorem splitL_hit {c : UInt8} {p r : List UInt8} (h : c ∉ p) : splitL c (p ++ c :: r) = p :: splitL c r := by
  rw [splitL_append, splitL_none h]
  rfl
theorem splitL_len (c : UInt8) (l : List UInt8) : (splitL c l).length ≤ l.length + 1 := by
  induction l with
  | nil => simp [splitL]
  | cons a t ih =>
    unfold splitL
    split
    · simp; omega
    · split
      · simp
      · rename_i x xs e; rw [e] at ih; simp at *; omega
theorem splitL_le (c : UInt8) (l : List UInt8) : ∀ p ∈ splitL c l, p.length ≤ l.length := by
  induction l with
  | nil => intro p hp; simp [splitL] at hp; subst hp; simp
  | cons a t ih =>
    intro p hp
    unfold splitL at hp
    split at hp
    · rcases List.mem_cons.1 hp with rfl | hp
      · simp
      · have := ih p hp; simp; omega
    · split at hp
      · rename_i e; exact absurd e (splitL_ne c t)
      · rename_i x xs e
        rcases List.mem_cons.1 hp with rfl | hp
        · have := ih x (by rw [e]; simp); simp; omega
        · have := ih p (by rw [e]; simp [hp]); simp; omega
/-- Where a byte first stands in a string. -/
theorem ixL (s : ByteArray) (c : UInt8) : (Lib.indexB s ⟨#[c]⟩ = -1 ∧ c ∉ s.data.toList) ∨
    ∃ o : Nat, Lib.indexB s ⟨#[c]⟩ = o ∧ o < s.size ∧ s.data.toList = s.data.toList.take o ++ c :: s.data.toList.drop (o + 1) ∧ c ∉ s.data.toList.take o := by
  have e : Lib.indexB s ⟨#[c]⟩ = Lib.indexByte s.data.toList c := Lib.index_one s.data.toList c
  have hge := Lib.indexByte_ge s.data.toList c
  rw [e]
  rcases (show Lib.indexByte s.data.toList c = -1 ∨ 0 ≤ Lib.indexByte s.data.toList c by omega) with h | h
  · refine .inl ⟨h, fun hm => ?_⟩
    obtain ⟨k, hk⟩ := List.getElem?_of_mem hm
    exact Lib.indexByte_none h k hk
  · obtain ⟨h1, h2⟩ := Lib.indexByte_some (Int.toNat_of_nonneg h).symm
    have ho : (Lib.indexByte s.data.toList c).toNat < s.data.toList.length := (List.getElem?_eq_some_iff.1 h1).1
    refine .inr ⟨_, (Int.toNat_of_nonneg h).symm, by rw [← size_data]; exact ho, ?_, fun hm => ?_⟩
    · conv => lhs; rw [← List.take_append_drop (Lib.indexByte s.data.toList c).toNat s.data.toList]
      rw [List.drop_eq_getElem_cons ho, (List.getElem?_eq_some_iff.1 h1).2]
    · obtain ⟨k, hk⟩ := List.getElem?_of_mem hm
      have hlt : k < (Lib.indexByte s.data.toList c).toNat := by
        have := (List.getElem?_eq_some_iff.1 hk).1
        rw [List.length_take] at this
        omega
      rw [List.getElem?_take, if_pos hlt] at hk
      exact h2 k hlt hk

/-- What stands before the first byte c, and behind it. -/
def preL (c : UInt8) : List UInt8 → List UInt8
  | [] => []
  | a :: t => if a = c then [] else a :: preL c t
def posL (c : UInt8) : List UInt8 → List UInt8
  | [] => []
  | a :: t => if a = c then t else posL c t
theorem pre_hit {c : UInt8} {p r : List UInt8} (h : c ∉ p) : preL c (p ++ c :: r) = p ∧ posL c (p ++ c :: r) = r := by
  induction p with
  | nil => simp [preL, posL]
  | cons a t ih =>
    simp at h
    obtain ⟨i1, i2⟩ := ih h.2
    rw [List.cons_append]
    unfold preL posL
    rw [if_neg (fun e => h.1 e.symm), if_neg (fun e => h.1 e.symm), i1, i2]
    exact ⟨rfl, rfl⟩
theorem pre_none {c : UInt8} {p : List UInt8} (h : c ∉ p) : preL c p = p ∧ posL c p = [] := by
  induction p with
  | nil => simp [preL, posL]
  | cons a t ih =>
    simp at h
    obtain ⟨i1, i2⟩ := ih h.2
    unfold preL posL
    rw [if_neg (fun e => h.1 e.symm), if_neg (fun e => h.1 e.symm), i1, i2]
    exact ⟨rfl, rfl⟩
theorem pre_app {c : UInt8} {p : List UInt8} (h : c ∈ p) : p = preL c p ++ c :: posL c p ∧ c ∉ preL c p := by
  induction p with
  | nil => simp at h
  | cons a t ih =>
    unfold preL posL
    by_cases e : a = c
    · rw [if_pos e, if_pos e, e]; simp
    · rw [if_neg e, if_neg e]
      obtain ⟨i1, i2⟩ := ih (by simp at h; exact h.resolve_left (fun x => e x.symm))
      refine ⟨by rw [List.cons_append, ← i1], ?_⟩
      simp
      exact ⟨fun x => e x.symm, i2⟩
theorem splitL_pre {c : UInt8} {l : List UInt8} (h : c ∈ l) : splitL c l = preL c l :: splitL c (posL c l) := by
  obtain ⟨h1, h2⟩ := pre_app h
  conv => lhs; rw [h1]
  exact splitL_hit h2
theorem posL_len {c : UInt8} {l : List UInt8} (h : c ∈ l) : (posL c l).length < l.length := by
  have := congrArg List.length (pre_app h).1
  rw [List.length_append, List.length_cons] at this
  omega
/-- What is left behind k pieces. -/
def restN (c : UInt8) (l : List UInt8) : Nat → List UInt8
  | 0 => l
  | k + 1 => posL c (restN c l k)
theorem split_rest (c : UInt8) (l : List UInt8) : ∀ k, k < (splitL c l).length → splitL c l = (splitL c l).take k ++ splitL c (restN c l k) := by
  intro k
  induction k with
  | zero => intro _; rfl
  | succ k ih =>
    intro h
    have h1 := ih (by omega)
    by_cases hm : c ∈ restN c l k
    · rw [splitL_pre hm] at h1
      have h2 : (splitL c l).take (k + 1) = (splitL c l).take k ++ [preL c (restN c l k)] := by
        conv => lhs; rw [h1]
        rw [List.take_append]
        have : ((splitL c l).take k).length = k := by rw [List.length_take]; omega
        rw [this, List.take_of_length_le (by rw [this]; omega), show k + 1 - k = 1 by omega]
        rfl
      rw [h2, List.append_assoc]
      exact h1
    · rw [splitL_none hm] at h1
      have := congrArg List.length h1
      rw [List.length_append, List.length_take] at this
      simp at this
      omega
theorem split_take (c : UInt8) (l : List UInt8) (k : Nat) (h : k < (splitL c l).length) : (splitL c l).take (k + 1) = (splitL c l).take k ++ [preL c (restN c l k)] ∧ (c ∈ restN c l k → k + 1 < (splitL c l).length) ∧ (c ∉ restN c l k → k + 1 = (splitL c l).length) := by
  have h1 := split_rest c l k h
  have hk : ((splitL c l).take k).length = k := by rw [List.length_take]; omega
  have ht : ∀ p ps, splitL c (restN c l k) = p :: ps → (splitL c l).take (k + 1) = (splitL c l).take k ++ [p] := by
    intro p ps e
    rw [e] at h1
    conv => lhs; rw [h1]
    rw [List.take_append, hk, List.take_of_length_le (by rw [hk]; omega), show k + 1 - k = 1 by omega]
    rfl
  by_cases hm : c ∈ restN c l k
  · refine ⟨ht _ _ (splitL_pre hm), fun _ => ?_, fun h => absurd hm h⟩
    rw [splitL_pre hm] at h1
    have := congrArg List.length h1
    rw [List.length_append, hk, List.length_cons] at this
    have h2 : 0 < (splitL c (posL c (restN c l k))).length := List.length_pos_iff.2 (splitL_ne _ _)
    omega
  · rw [(pre_none hm).1]
    refine ⟨ht _ _ (splitL_none hm), fun h => absurd h hm, fun _ => ?_⟩
    rw [splitL_none hm] at h1
    have := congrArg List.length h1
    rw [List.length_append, hk] at this
    simp at this
    omega
theorem pos_len (c : UInt8) (l : List UInt8) : (posL c l).length ≤ l.length := by
  by_cases h : c ∈ l
  · have := posL_len h; omega
  · rw [(pre_none h).2]; exact Nat.zero_le _
theorem rest_len (c : UInt8) (l : List UInt8) (k : Nat) : (restN c l k).length ≤ l.length := by
  induction k with
  | zero => exact Nat.le_refl _
  | succ k ih => exact Nat.le_trans (pos_len c _) ih

theorem ext_pre (r : List UInt8) (c : UInt8) (o : Nat) (h : r = r.take o ++ c :: r.drop (o + 1)) (hn : c ∉ r.take o) : (mkB r).extract 0 o = mkB (preL c r) ∧ (mkB r).extract (o + 1) r.length = mkB (posL c r) ∧ c ∈ r := by
  have h1 : preL c r = r.take o := by conv => lhs; rw [h]
                                      exact (pre_hit hn).1
  have h2 : posL c r = r.drop (o + 1) := by conv => lhs; rw [h]
                                            exact (pre_hit hn).2
  refine ⟨?_, ?_, by rw [h]; simp⟩
  · apply str_ext
    rw [ext_take, mkB_data, mkB_data, h1]
  · apply str_ext
    rw [← mkB_size r, ext_end, mkB_data, mkB_data, h2]

end Go.Proofs.YthpcbaamkeiffaaGreatDoor
namespace Go.Proofs.YthpcbaamkeiffaaGreatDoor
set_option linter.unusedVariables false
set_option linter.unusedSimpArgs false

/-! Bytes. -/
def isBl (c : UInt8) : Bool := decide (c.toNat = 32) || decide (c.toNat = 9)
def bareC (c : UInt8) : Bool := decide (33 ≤ c.toNat) && decide (c.toNat ≤ 126) && decide (c.toNat ≠ 34)
def blN : List UInt8 → Nat
  | [] => 0
  | c :: t => if isBl c then blN t + 1 else 0
def barN : List UInt8 → Nat
  | [] => 0
  | c :: t => if bareC c then barN t + 1 else 0
def endL : List UInt8 → Bool
  | [] => true
  | c :: _ => isBl c
theorem blN_le (l : List UInt8) : blN l ≤ l.length := by
  induction l with
  | nil => exact Nat.le_refl _
  | cons c t ih => unfold blN; split <;> simp <;> omega
theorem barN_le (l : List UInt8) : barN l ≤ l.length := by
  induction l with
  | nil => exact Nat.le_refl _
  | cons c t ih => unfold barN; split <;> simp <;> omega
theorem bar_bl {c : UInt8} (h : bareC c = true) : isBl c = false := by
  revert h
  exact u8_all (p := fun c => bareC c = true → isBl c = false) (by decide +kernel) c

/-! Quoted words: what stands behind the first quotation mark; how many bytes that takes, with the last one. -/
def quo : List UInt8 → Option (List UInt8 × Nat)
  | [] => none
  | c :: t =>
    if c = 34 then some ([], 1)
    else if c = 92 then
      match t with
      | [] => none
      | d :: u =>
        if d = 34 ∨ d = 92 then (quo u).map fun r => (d :: r.1, r.2 + 2)
        else if d = 120 then
          match u with
          | a :: b :: v => if 0 ≤ hexv a ∧ 0 ≤ hexv b then (quo v).map fun r => (escV a b :: r.1, r.2 + 4) else none
          | _ => none
        else none
    else if 32 ≤ c.toNat ∧ c.toNat ≤ 126 then (quo t).map fun r => (c :: r.1, r.2 + 1)
    else none
theorem quo_nil : quo [] = none := by unfold quo; rfl
theorem quo_end (t : List UInt8) : quo (34 :: t) = some ([], 1) := by rw [quo.eq_def]; simp
theorem quo_plain {c : UInt8} {t : List UInt8} (h1 : c ≠ 34) (h2 : c ≠ 92) (h3 : 32 ≤ c.toNat ∧ c.toNat ≤ 126) : quo (c :: t) = (quo t).map fun r => (c :: r.1, r.2 + 1) := by
  rw [quo.eq_def]; simp [h1, h2, h3]
theorem quo_wrong {c : UInt8} {t : List UInt8} (h3 : ¬ (32 ≤ c.toNat ∧ c.toNat ≤ 126)) : quo (c :: t) = none := by
  have h1 : c ≠ 34 := by rintro rfl; exact h3 (by decide)
  have h2 : c ≠ 92 := by rintro rfl; exact h3 (by decide)
  rw [quo.eq_def]; simp [h1, h2]; intro a b; exact absurd ⟨a, b⟩ h3
theorem quo_esc {d : UInt8} {u : List UInt8} (h : d = 34 ∨ d = 92) : quo (92 :: d :: u) = (quo u).map fun r => (d :: r.1, r.2 + 2) := by
  rw [quo.eq_def]; simp [h]
theorem quo_last : quo [92] = none := by rw [quo.eq_def]; simp
theorem quo_hex {a b : UInt8} {v : List UInt8} (h : 0 ≤ hexv a ∧ 0 ≤ hexv b) : quo (92 :: 120 :: a :: b :: v) = (quo v).map fun r => (escV a b :: r.1, r.2 + 4) := by
  rw [quo.eq_def]; simp [h]
theorem quo_nohex {a b : UInt8} {v : List UInt8} (h : ¬ (0 ≤ hexv a ∧ 0 ≤ hexv b)) : quo (92 :: 120 :: a :: b :: v) = none := by
  rw [quo.eq_def]; simp; intro x y; exact absurd ⟨x, y⟩ h
theorem quo_short {u : List UInt8} (h : u.length < 2) : quo (92 :: 120 :: u) = none := by
  match u, h with
  | [], _ => rw [quo.eq_def]; simp
  | [_], _ => rw [quo.eq_def]; simp
theorem quo_other {d : UInt8} {u : List UInt8} (h1 : d ≠ 34) (h2 : d ≠ 92) (h3 : d ≠ 120) : quo (92 :: d :: u) = none := by
  rw [quo.eq_def]; simp [h1, h2, h3]
/-- A list is one of these. -/
theorem quo_cases (l : List UInt8) : l = [] ∨ (∃ t, l = 34 :: t) ∨ (∃ c t, l = c :: t ∧ c ≠ 34 ∧ c ≠ 92 ∧ 32 ≤ c.toNat ∧ c.toNat ≤ 126) ∨ (∃ c t, l = c :: t ∧ ¬ (32 ≤ c.toNat ∧ c.toNat ≤ 126)) ∨ l = [92] ∨
    (∃ d u, l = 92 :: d :: u ∧ (d = 34 ∨ d = 92)) ∨ (∃ a b v, l = 92 :: 120 :: a :: b :: v ∧ 0 ≤ hexv a ∧ 0 ≤ hexv b) ∨ (∃ a b v, l = 92 :: 120 :: a :: b :: v ∧ ¬ (0 ≤ hexv a ∧ 0 ≤ hexv b)) ∨
    (∃ u, l = 92 :: 120 :: u ∧ u.length < 2) ∨ (∃ d u, l = 92 :: d :: u ∧ d ≠ 34 ∧ d ≠ 92 ∧ d ≠ 120) := by
  match l with
  | [] => exact .inl rfl
  | c :: t =>
    by_cases h1 : c = 34
    · subst h1; exact .inr (.inl ⟨t, rfl⟩)
    · by_cases h2 : c = 92
      · subst h2
        match t with
        | [] => exact .inr (.inr (.inr (.inr (.inl rfl))))
        | d :: u =>
          by_cases h3 : d = 34 ∨ d = 92
          · exact .inr (.inr (.inr (.inr (.inr (.inl ⟨d, u, rfl, h3⟩)))))
          · by_cases h4 : d = 120
            · subst h4
              match u with
              | [] => exact .inr (.inr (.inr (.inr (.inr (.inr (.inr (.inr (.inl ⟨[], rfl, by simp⟩))))))))
              | [a] => exact .inr (.inr (.inr (.inr (.inr (.inr (.inr (.inr (.inl ⟨[a], rfl, by simp⟩))))))))
              | a :: b :: v =>
                by_cases h5 : 0 ≤ hexv a ∧ 0 ≤ hexv b
                · exact .inr (.inr (.inr (.inr (.inr (.inr (.inl ⟨a, b, v, rfl, h5.1, h5.2⟩))))))
                · exact .inr (.inr (.inr (.inr (.inr (.inr (.inr (.inl ⟨a, b, v, rfl, h5⟩)))))))
            · exact .inr (.inr (.inr (.inr (.inr (.inr (.inr (.inr (.inr ⟨d, u, rfl, fun e => h3 (.inl e), fun e => h3 (.inr e), h4⟩))))))))
      · by_cases h3 : 32 ≤ c.toNat ∧ c.toNat ≤ 126
        · exact .inr (.inr (.inl ⟨c, t, rfl, h1, h2, h3⟩))
        · exact .inr (.inr (.inr (.inl ⟨c, t, rfl, h3⟩)))
theorem quo_ind {p : List UInt8 → Prop} (h : ∀ l, (∀ m : List UInt8, m.length < l.length → p m) → p l) (l : List UInt8) : p l := by
  have key : ∀ n (l : List UInt8), l.length ≤ n → p l := by
    intro n
    induction n with
    | zero => intro l hl; exact h l (fun m hm => absurd hm (by omega))
    | succ n ih => intro l hl; exact h l (fun m hm => ih m (by omega))
  exact key l.length l (Nat.le_refl _)
theorem quo_le (l : List UInt8) : ∀ r, quo l = some r → 1 ≤ r.2 ∧ r.2 ≤ l.length ∧ r.1.length < r.2 := by
  induction l using quo_ind with
  | h l ih =>
    intro r hr
    rcases quo_cases l with rfl | ⟨t, rfl⟩ | ⟨c, t, rfl, h1, h2, h3, h4⟩ | ⟨c, t, rfl, h3⟩ | rfl | ⟨d, u, rfl, h⟩ | ⟨a, b, v, rfl, ha, hb⟩ | ⟨a, b, v, rfl, h⟩ | ⟨u, rfl, h⟩ | ⟨d, u, rfl, h1, h2, h3⟩
    · rw [quo_nil] at hr; cases hr
    · rw [quo_end] at hr; cases hr; simp
    · rw [quo_plain h1 h2 ⟨h3, h4⟩] at hr
      cases e : quo t with
      | none => rw [e] at hr; cases hr
      | some x => rw [e] at hr; cases hr; have := ih t (by simp) x e; simp; omega
    · rw [quo_wrong h3] at hr; cases hr
    · rw [quo_last] at hr; cases hr
    · rw [quo_esc h] at hr
      cases e : quo u with
      | none => rw [e] at hr; cases hr
      | some x => rw [e] at hr; cases hr; have := ih u (by simp; omega) x e; simp; omega
    · rw [quo_hex ⟨ha, hb⟩] at hr
      cases e : quo v with
      | none => rw [e] at hr; cases hr
      | some x => rw [e] at hr; cases hr; have := ih v (by simp; omega) x e; simp; omega
    · rw [quo_nohex h] at hr; cases hr
    · rw [quo_short h] at hr; cases hr
    · rw [quo_other h1 h2 h3] at hr; cases hr

/-! A word at the beginning of a list; how many bytes it has. -/
def readQ (t : List UInt8) : Option (List UInt8 × Nat) := (quo t).bind fun r => if endL (t.drop r.2) = true then some (r.1, r.2 + 1) else none
def readB (l : List UInt8) : Option (List UInt8 × Nat) := if 0 < barN l ∧ endL (l.drop (barN l)) = true then some (l.take (barN l), barN l) else none
def readW : List UInt8 → Option (List UInt8 × Nat)
  | [] => none
  | c :: t => if c = 34 then readQ t else readB (c :: t)
theorem readQ_le (t : List UInt8) : ∀ r, readQ t = some r → 1 ≤ r.2 ∧ r.2 ≤ t.length + 1 ∧ r.1.length ≤ r.2 := by
  intro r hr
  unfold readQ at hr
  cases e : quo t with
  | none => rw [e] at hr; cases hr
  | some x =>
    rw [e] at hr
    have hr : (if endL (t.drop x.2) = true then some (x.1, x.2 + 1) else none) = some r := hr
    by_cases h : endL (t.drop x.2) = true
    · rw [if_pos h] at hr
      cases hr
      have := quo_le t x e
      show 1 ≤ x.2 + 1 ∧ x.2 + 1 ≤ t.length + 1 ∧ x.1.length ≤ x.2 + 1
      omega
    · rw [if_neg h] at hr; cases hr
theorem readB_le (l : List UInt8) : ∀ r, readB l = some r → 1 ≤ r.2 ∧ r.2 ≤ l.length ∧ r.1.length ≤ r.2 := by
  intro r hr
  unfold readB at hr
  by_cases h : 0 < barN l ∧ endL (l.drop (barN l)) = true
  · rw [if_pos h] at hr
    cases hr
    have := barN_le l
    simp only [List.length_take]
    omega
  · rw [if_neg h] at hr; cases hr
theorem readW_le (l : List UInt8) : ∀ r, readW l = some r → 1 ≤ r.2 ∧ r.2 ≤ l.length ∧ r.1.length ≤ r.2 := by
  intro r hr
  cases l with
  | nil => cases hr
  | cons c t =>
    have hr : (if c = 34 then readQ t else readB (c :: t)) = some r := hr
    by_cases h : c = 34
    · rw [if_pos h] at hr
      have := readQ_le t r hr
      simp; omega
    · rw [if_neg h] at hr
      exact readB_le _ r hr

/-- A word: where it begins, what it says, whether it is quoted. -/
structure Wd where
  a : Int
  t : ByteArray
  q : Bool
deriving DecidableEq
/-- A row: where its line begins, its words. -/
structure Rw where
  a : Int
  w : List Wd
deriving DecidableEq

/-- The words of a line, or where the first one that is none begins: o is the offset of the list. -/
def wordsL : Nat → Nat → List UInt8 → Option (List Wd) × Nat
  | 0, _, _ => (some [], 0)
  | f + 1, o, l =>
    match l.drop (blN l) with
    | [] => (some [], 0)
    | c :: t =>
      if c = 35 then (some [], 0)
      else match readW (c :: t) with
        | none => (none, o + blN l)
        | some r =>
          match wordsL f (o + blN l + r.2) ((c :: t).drop r.2) with
          | (none, e) => (none, e)
          | (some ws, e) => (some (⟨((o + blN l : Nat) : Int), mkB r.1, decide (c = 34)⟩ :: ws), e)
def lineL (o : Nat) (l : List UInt8) : Option (List Wd) × Nat := wordsL (l.length + 1) o l

/-- The rows of lines, or a fault: o is the offset of the first line. -/
def rowsF : Nat → List (List UInt8) → Option (List Rw) × Int × Int
  | _, [] => (some [], 0, 0)
  | o, p :: ps =>
    if 1000 < p.length then (none, 4, (o : Int))
    else match lineL o p with
      | (none, e) => (none, 3, (e : Int))
      | (some ws, _) =>
        match rowsF (o + p.length + 1) ps with
        | (none, e) => (none, e)
        | (some rs, e) => (some ((if ws = [] then [] else [⟨o, ws⟩]) ++ rs), e)

def rowsR (l : List UInt8) : Option (List Rw) × Int × Int := if 20000 < l.length then (none, 4, 20000) else rowsF 0 (splitL 10 l)
/-! How words are written. -/
def bareW (l : List UInt8) : Bool := decide (l ≠ []) && l.all bareC && decide (l.head? ≠ some 35)
def hexl (n : Nat) : UInt8 := if n < 10 then (48 + n).toUInt8 else (87 + n).toUInt8
def wr1 (c : UInt8) : List UInt8 := if c = 34 ∨ c = 92 then [92, c] else if 32 ≤ c.toNat ∧ c.toNat ≤ 126 then [c] else [92, 120, hexl (c.toNat / 16), hexl (c.toNat % 16)]
def wrQ (l : List UInt8) : List UInt8 := l.flatMap wr1
def wrW (l : List UInt8) : List UInt8 := if bareW l then l else 34 :: (wrQ l ++ [34])

/-! Texts of rows. -/
def lineW (ws : List ByteArray) : List UInt8 := [32].intercalate (ws.map fun t => wrW t.data.toList)
def textF : List (List ByteArray) → List UInt8 → Option (List UInt8) × Int
  | [], out => (some out, 0)
  | r :: rs, out =>
    if r = [] then (none, 3)
    else if 1000 < (lineW r).length ∨ 20000 < out.length + (lineW r).length + 1 then (none, 4)
    else textF rs (out ++ lineW r ++ [10])
end Go.Proofs.YthpcbaamkeiffaaGreatDoor
