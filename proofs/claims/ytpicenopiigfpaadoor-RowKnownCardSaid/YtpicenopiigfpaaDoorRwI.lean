/-
  strings.SplitSeq at one byte, walked as an iterator: it yields the pieces, one after the other, until the consumer stops; no condition.
-/
import Derived.Test.YtpicenopiigfpaaDoorRns
import Derived.Test.YtpicenopiigfpaaDoorSpl
import Derived.Test.YtpicenopiigfpaaDoorShelf
namespace Go.Proofs.YtpicenopiigfpaaDoor
open Go.RowKit Go.Shelf
set_option linter.unusedVariables false
set_option linter.unusedSimpArgs false
attribute [local go_sem] Oper.semAt_some

theorem RoundIn_any {F : Fence} (hd : F.depth = none) {m m' : Nat} {P : Program} {l : Nat} {f : FuncId} {tmps : Array Value} {assign body : Code} {w : World} {R : Ending → World → Prop}
    (h : RoundIn F m P l f tmps assign body w R) : RoundIn F m' P l f tmps assign body w R := ⟨h.1, fun c cs _ => h.2 c cs (fun d e => by rw [hd] at e; cases e)⟩
theorem yield_any {F : Fence} (hd : F.depth = none) {m : Nat} (m' : Nat) {P : Program} {l : Nat} {args : Array Value} {W : World} {R : Ending → World → Prop} (h : YieldAt F m P l args W R) : YieldAt F m' P l args W R := by
  obtain ⟨fn, tmps, assign, body, hy, hR⟩ := h
  exact ⟨fn, tmps, assign, body, hy, RoundIn_any hd hR⟩

/-- What a consumer's state abides. -/
structure Stays {α : Type} (B0 : Nat) (K : List α → World → Prop) : Prop where
  set_ : ∀ xs W b t v u, K xs W → Blk W b t #[v] → (t = 9 ∨ t = 3) → B0 ≤ b → K xs (W.setCell ⟨b, 0, none⟩ u)
  alloc : ∀ xs W o, K xs W → K xs (W.alloc o)
  put : ∀ xs W k o o', K xs W → B0 ≤ k → W.heap[k]? = some o → o.isCells = false → K xs (W.putObj k o')
  drewN : ∀ xs W n, K xs W → K xs (W.drewN n)

/-- The three boxes of the iterator. -/
def SpBox (b1 b2 b3 : Nat) (c : UInt8) (rest : List UInt8) (W : World) : Prop := Blk W b1 9 #[.string ⟨#[c]⟩] ∧ Blk W b2 9 #[.string (mkB rest)] ∧ Blk W b3 3 #[.int .i64 0]
theorem SpBox.alloc {b1 b2 b3 : Nat} {c : UInt8} {rest : List UInt8} {W : World} (h : SpBox b1 b2 b3 c rest W) (o : Obj) : SpBox b1 b2 b3 c rest (W.alloc o) := ⟨h.1.alloc _, h.2.1.alloc _, h.2.2.alloc _⟩
theorem SpBox.put {b1 b2 b3 : Nat} {c : UInt8} {rest : List UInt8} {W : World} (h : SpBox b1 b2 b3 c rest W) (k : Nat) (o' : Obj) (h1 : b1 ≠ k) (h2 : b2 ≠ k) (h3 : b3 ≠ k) : SpBox b1 b2 b3 c rest (W.putObj k o') :=
  ⟨(World.putObj_heap_other h1).trans h.1, (World.putObj_heap_other h2).trans h.2.1, (World.putObj_heap_other h3).trans h.2.2⟩
theorem SpBox.grown {b1 b2 b3 : Nat} {c : UInt8} {rest : List UInt8} {W W' : World} (h : SpBox b1 b2 b3 c rest W) {row : Option Nat} (hg : W.grownBy W' row) (h1 : some b1 ≠ row) (h2 : some b2 ≠ row) (h3 : some b3 ≠ row) : SpBox b1 b2 b3 c rest W' :=
  ⟨h.1.grown hg h1, h.2.1.grown hg h2, h.2.2.grown hg h3⟩
theorem SpBox.store {b1 b2 b3 : Nat} {c : UInt8} {rest rest' : List UInt8} {W : World} (h : SpBox b1 b2 b3 c rest W) (h1 : b1 ≠ b2) (h3 : b3 ≠ b2) : SpBox b1 b2 b3 c rest' (W.setCell ⟨b2, 0, none⟩ (.string (mkB rest'))) :=
  ⟨h.1.far h1 _, h.2.1.set_ 0 _, h.2.2.far h3 _⟩
def encS1 (p : List UInt8) : Array Value := #[.string (mkB p)]
def SpJ (b1 b2 b3 : Nat) (c : UInt8) (l : List UInt8) (K : List (List UInt8) → World → Prop) (xs : List (List UInt8)) (W : World) : Prop :=
  K xs W ∧ SpBox b1 b2 b3 c (restN c l (xs.length - 1)) W
def SpY (b1 b2 b3 : Nat) (c : UInt8) (l : List UInt8) (K : List (List UInt8) → World → Prop) (xs : List (List UInt8)) (x : List UInt8) (W : World) : Prop :=
  K xs W ∧ SpBox b1 b2 b3 c (restN c l xs.length) W ∧ x = preL c (restN c l xs.length) ∧ xs = (splitL c l).take xs.length ∧ xs.length < (splitL c l).length
def SpZ (c : UInt8) (l : List UInt8) (K : List (List UInt8) → World → Prop) (xs : List (List UInt8)) (W : World) : Prop := K xs W ∧ xs = splitL c l
def boxLen (W : World) (b : Nat) : Nat := match W.cell? ⟨b, 0, none⟩ with
  | some (.string s) => s.size
  | _ => 0
theorem boxLen_at {W : World} {b : Nat} {r : List UInt8} (h : Blk W b 9 #[.string (mkB r)]) : boxLen W b = r.length := by
  unfold boxLen
  rw [h.cell' (i := 0) rfl]
  exact mkB_size r

set_option maxRecDepth 100000 in
set_option maxHeartbeats 4000000 in
theorem split_stops (n1 : Nat) (hn1 : 1 ≤ n1) (c : UInt8) (l : List UInt8) (hl : l.length ≤ 1000000000) (B0 : Nat) (K : List (List UInt8) → World → Prop) (hK : Stays B0 K) (lp b1 b2 b3 : Nat) (h12 : b1 ≠ b2) (h32 : b3 ≠ b2) (hB0 : B0 ≤ b2)
    (KX : List (List UInt8) → World → Prop) (R Rx : World → Prop) (hR : ∀ W v, R W → R (W.setCell ⟨b2, 0, none⟩ v))
    (hY : ∀ pre x W, SpY b1 b2 b3 c l K pre x W → R W → YieldAt Fence.wide (n1 - 1) Tryd.prog lp (encS1 x) W fun e W' => (e = .returned (.bool true) ∧ SpJ b1 b2 b3 c l K (pre ++ [x]) W' ∧ R W') ∨ (e = .returned (.bool false) ∧ KX (pre ++ [x]) W' ∧ Rx W'))
    (W : World) (h0 : SpJ b1 b2 b3 c l K [] W) (hRW : R W) :
    CallsIn Fence.wide n1 Tryd.prog 69 (#[.func (.yield lp) #[] #[]] ++ #[.pointer (some ⟨b1, 0, none⟩), .pointer (some ⟨b2, 0, none⟩), .pointer (some ⟨b3, 0, none⟩)]) W fun e W' => (∃ v, e = .returned v) ∧ ((R W' ∧ ∃ xs, SpZ c l K xs W') ∨ (Rx W' ∧ ∃ xs, KX xs W')) := by
  have HH := Lib.hid (And.intro hK (And.intro hR hY))
  clear hK hR hY
  have s1 := h0.2.1.cell' (i := 0) rfl
  have H0 := Lib.hid (And.intro h0 hRW)
  clear h0 hRW
  refine callsIn_of_wp Tryd.func69 rfl trivial ?_ rfl
  simp only [Tryd.ntmps69, List.size_toArray, List.length_cons, List.length_nil, Nat.reduceAdd, Nat.reduceSub, Array.replicate_succ, Array.replicate_zero, List.push_toArray, List.append_toArray, List.nil_append, List.cons_append]
  gi_wp2
  gi_loopw [] (fun wr => ∃ k : Nat, k < (splitL c l).length ∧ K ((splitL c l).take k) wr ∧ SpBox b1 b2 b3 c (restN c l k) wr ∧ R wr) (fun wr => boxLen wr b2)
  case atStart => exact ⟨0, List.length_pos_iff.2 (splitL_ne _ _), H0.out.1.1, H0.out.1.2, H0.out.2⟩
  case round =>
    obtain ⟨k, hk, hKk, hbx, hr⟩ := hrel
    have c1 := hbx.1.cell' (i := 0) rfl
    have c2 := hbx.2.1.cell' (i := 0) rfl
    have c3 := hbx.2.2.cell' (i := 0) rfl
    have f2 := hbx.2.1.frozen 0
    have hlt2 := hbx.2.1.lt
    have hlen : (restN c l k).length ≤ 1000000000 := Nat.le_trans (rest_len c l k) hl
    have hbl := boxLen_at hbx.2.1
    have hlk : ((splitL c l).take k).length = k := by rw [List.length_take]; omega
    obtain ⟨t1, t2, t3⟩ := split_take c l k hk
    have A := Lib.hid (And.intro hKk (And.intro hbx (And.intro hr (And.intro t1 (And.intro t2 (And.intro t3 hlk))))))
    clear hKk hbx hr t1 t2 t3
    have hix := ixL (mkB (restN c l k)) c
    rw [mkB_data, show Lib.indexB (mkB (restN c l k)) ⟨#[c]⟩ = Lib.indexByte (mkB (restN c l k)).data.toList c from Lib.index_one _ c] at hix
    have hyld : ∀ W, K ((splitL c l).take k) W → SpBox b1 b2 b3 c (restN c l k) W → R W → YieldAt Fence.wide (n1 - 1) Tryd.prog lp (encS1 (preL c (restN c l k))) W fun e W' => (e = .returned (.bool true) ∧ SpJ b1 b2 b3 c l K ((splitL c l).take (k + 1)) W' ∧ R W') ∨ (e = .returned (.bool false) ∧ KX ((splitL c l).take (k + 1)) W' ∧ Rx W') := by
      intro W a1 a2 a3
      have := HH.out.2.2 ((splitL c l).take k) (preL c (restN c l k)) W ⟨a1, by rw [hlk]; exact a2, by rw [hlk], by rw [hlk], by rw [hlk]; exact hk⟩ a3
      rw [← A.out.2.2.2.1] at this
      exact this
    have HYL := Lib.hid hyld
    clear hyld
    rcases hix with ⟨e, hn⟩ | ⟨o, e, ho, hsp, hn⟩
    · have hpre := (pre_none hn).1
      have hfin := A.out.2.2.2.2.2.1 hn
      have HE := Lib.hid (And.intro hn hfin)
      clear hn
      gi_wp2
      refine ⟨trivial, (callsIn_wide.2 (Tryd.strings_Index_one _ _ _)).mono ?_⟩
      rintro e' W1 ⟨rfl, rfl⟩
      rw [e]
      obtain ⟨fn, tmps, assign, body, hy, hRd⟩ := HYL.out _ A.out.1 A.out.2.1 A.out.2.2.1
      rw [hpre] at hy
      simp only [encS1] at hy
      gi_wp2
      refine hRd.mono ?_
      rintro e' W4 (⟨rfl, hj, hr'⟩ | ⟨rfl, hj, hr'⟩)
      · have H4 := Lib.hid (And.intro hj hr')
        clear hj hr' hy hRd
        gi_wp2
        go_end0
        refine ⟨⟨_, rfl⟩, .inl ⟨H4.out.2, splitL c l, ?_, rfl⟩⟩
        have := H4.out.1.1
        rw [HE.out.2, List.take_length] at this
        exact this
      · have H4 := Lib.hid (And.intro hj hr')
        clear hj hr' hy hRd
        gi_wp2
        go_end0
        exact ⟨⟨_, rfl⟩, .inr ⟨H4.out.2, _, H4.out.1⟩⟩
    · obtain ⟨p1, p2, p3⟩ := ext_pre _ c o hsp hn
      have hmore := A.out.2.2.2.2.1 p3
      have hps := posL_len p3
      have HE := Lib.hid (And.intro hmore (And.intro p1 p2))
      rw [mkB_size] at ho
      clear p1 p2 hsp hn
      have hlsz : (mkB (restN c l k)).size = (restN c l k).length := mkB_size _
      gi_wp2
      refine ⟨trivial, (callsIn_wide.2 (Tryd.strings_Index_one _ _ _)).mono ?_⟩
      rintro e' W1 ⟨rfl, rfl⟩
      rw [e]
      obtain ⟨fn, tmps, assign, body, hy, hRd⟩ := HYL.out _ A.out.1 A.out.2.1 A.out.2.2.1
      simp only [encS1] at hy
      rw [← HE.out.2.1] at hy
      gi_wp2
      refine hRd.mono ?_
      rintro e' W4 (⟨rfl, hj, hr'⟩ | ⟨rfl, hj, hr'⟩)
      rotate_left
      · have H4 := Lib.hid (And.intro hj hr')
        clear hj hr' hy hRd
        gi_wp2
        refine bodyPost_ret (results_none rfl _ _ _) rfl ?_
        exact ⟨⟨_, rfl⟩, .inr ⟨H4.out.2, _, H4.out.1⟩⟩
      have hbx4 : SpBox b1 b2 b3 c (restN c l k) W4 := by
        have := hj.2
        rw [List.length_take, Nat.min_eq_left (by omega), Nat.add_sub_cancel] at this
        exact this
      have d1 := hbx4.1.cell' (i := 0) rfl
      have d2 := hbx4.2.1.cell' (i := 0) rfl
      have g2 := hbx4.2.1.frozen 0
      have H4 := Lib.hid (And.intro hj (And.intro hr' hbx4))
      clear hj hr' hy hRd hbx4
      gi_wp2
      go_roundw
      case rel =>
        rw [HE.out.2.2]
        refine ⟨k + 1, hmore, HH.out.1.set_ _ _ _ _ _ _ H4.out.1.1 H4.out.2.2.2.1 (.inl rfl) hB0, ?_, ?_⟩
        · exact H4.out.2.2.store h12 h32
        · exact HH.out.2.1 _ _ H4.out.2.1
      case measure =>
        rw [HE.out.2.2, hbl]
        have := boxLen_at (H4.out.2.2.store (rest' := posL c (restN c l k)) h12 h32).2.1
        rw [this]
        exact hps
end Go.Proofs.YtpicenopiigfpaaDoor
