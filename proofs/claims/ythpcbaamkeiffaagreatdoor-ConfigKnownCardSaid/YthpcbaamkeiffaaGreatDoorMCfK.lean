/-
  options of config's reader, walked, with flags and without; conditions: sizes.
-/
import Derived.StillTailTactics
import Derived.Test.YthpcbaamkeiffaaGreatDoorMCfJ
import Derived.Test.YthpcbaamkeiffaaGreatDoorMFtH
namespace Go.Proofs.YthpcbaamkeiffaaGreatDoor
open Go.RowKit Go.Shelf
set_option linter.unusedVariables false
set_option linter.unusedSimpArgs false

/-- n cells, each known by its number. -/
def vecC (n : Nat) (f : Nat → Value) : Array Value := ((List.range n).map f).toArray
theorem vecC_at {n : Nat} (f : Nat → Value) {k : Nat} (hk : k < n) : (vecC n f)[k]? = some (f k) := by
  unfold vecC
  rw [List.getElem?_toArray, List.getElem?_map, List.getElem?_range hk]; rfl
theorem vecC_size (n : Nat) (f : Nat → Value) : (vecC n f).size = n := by simp [vecC]
set_option maxRecDepth 100000 in
/-- make of n cells. -/
theorem mk_vec {t e : TypeId} {z : Value} {b : Nat} (ht : Tryz.prog.underlying t = some (.slice e)) (hinfo : (Tryz.prog.info? e).map (fun i => (i.zero, i.size, i.bytes)) = some (some z, 1, b)) (hz : z.cells = #[z]) (hb : b ≤ 24) (n : Nat) (hn : n ≤ 1000000) (w : World) :
    (Instr.makeSlice t (.int .i64 (n : Int)) (.int .i64 (n : Int))).run Tryz.prog w = .ok (.slice (some ⟨w.heap.size, 0, none⟩) n n) (w.alloc (.cells (vecC n fun _ => z) e)) := by
  obtain ⟨i, hi, hz0, hz1, hz2⟩ := info_parts hinfo
  have h := run_make (P := Tryz.prog) w t e i z ht hi hz0 .i64 .i64 (n : Int) (n : Int) (by omega) (Int.le_refl _) (by
    rw [hz2]
    have : (b : Int) * (n : Int) ≤ 24 * 1000000 := Int.mul_le_mul (by omega) (by omega) (by omega) (by omega)
    omega) (by omega)
  rw [hz1, hz, Int.toNat_natCast, Nat.mul_one] at h
  rw [h]
  congr 4
  apply Array.ext_getElem?
  intro j
  by_cases hj : j < n
  · rw [vecC_at _ hj]
    unfold madeCells
    rw [Array.getElem?_map, Array.getElem?_range, if_pos hj]
    simp [Nat.mod_one]
  · rw [Array.getElem?_eq_none (by rw [size_madeCells]; omega), Array.getElem?_eq_none (by rw [vecC_size]; omega)]

theorem infoB : (Tryz.prog.info? 4).map (fun i => (i.zero, i.size, i.bytes)) = some (some (.bool false), 1, 1) := by kernel_rfl
theorem mk_bool1 (w : World) : (Instr.makeSlice 189 (.int .i64 1) (.int .i64 1)).run Tryz.prog w = .ok (.slice (some ⟨w.heap.size, 0, none⟩) 1 1) (w.alloc (.cells #[.bool false] 4)) :=
  mk_vec (t := 189) (z := .bool false) Tryz.underlying189 infoB rfl (by decide) 1 (by decide) w
theorem mk_bool3 (w : World) : (Instr.makeSlice 189 (.int .i64 3) (.int .i64 3)).run Tryz.prog w = .ok (.slice (some ⟨w.heap.size, 0, none⟩) 3 3) (w.alloc (.cells #[.bool false, .bool false, .bool false] 4)) :=
  mk_vec (t := 189) (z := .bool false) Tryz.underlying189 infoB rfl (by decide) 3 (by decide) w
theorem idx_code (ts : List ByteArray) (s : ByteArray) (v : Value) (hl : ts.length ≤ 1000000) (w : World) (hv : TextsIn w v ts) :
    Calls Tryz.prog 89 #[v, .string s] w fun e w' => e = .returned (.int .i64 (Lib.idxOfS ts s)) ∧ w' = w := by
  obtain ⟨A, c, rfl, hA, hc⟩ := hv
  by_cases h0 : ts.length = 0
  · have : ts = [] := List.length_eq_zero_iff.1 h0
    subst this
    exact Tryz.slices_Index_string_empty A c s w
  · obtain ⟨b, off, rfl, hlt, hcl⟩ := hc (by omega)
    have := Tryz.slices_Index_string b off ts.length c ts s w (Nat.le_refl _) (by omega) (fun j hj => by
      have h1 := hcl j 0 hj (by decide)
      rw [Nat.mul_one, Nat.add_zero] at h1
      rw [h1]
      unfold txAt
      rw [List.getElem?_eq_getElem hj]
      simp [List.getD, hj])
    rw [List.take_of_length_le (Nat.le_refl _)] at this
    exact this
theorem pre_one (l : List UInt8) : Lib.hasPrefix l [91] = decide (l.head? = some 91) := by
  cases l with
  | nil => rfl
  | cons c t =>
    by_cases h : c = 91
    · subst h; rfl
    · have : ¬ (some c = some (91 : UInt8)) := fun e => h (by cases e; rfl)
      rw [decide_eq_false (by simpa using h)]
      show ((91 : UInt8) == c && List.isPrefixOf [] t) = false
      rw [beq_eq_false_iff_ne.2 (fun e => h e.symm)]; rfl
theorem texts_blk {w : World} {b n : Nat} {ts : List ByteArray} (h : Blk w b 9 (ts.map Value.string).toArray) (hn : n = ts.length) : TextsIn w (.slice (some ⟨b, 0, none⟩) n n) ts := by
  subst hn
  refine ⟨some ⟨b, 0, none⟩, _, rfl, fun e => by (cases e), fun _ => ⟨b, 0, rfl, h.lt, fun i j hi hj => ?_⟩⟩
  have : j = 0 := by omega
  subst this
  refine h.cell' ?_
  unfold txAt
  rw [List.getElem?_eq_getElem hi]
  simp [hi]

/-! What is known in the loop. -/
def boolA (set : List Bool) : Array Value := (set.map Value.bool).toArray
theorem boolA_set (set : List Bool) (k : Nat) (b : Bool) : (boolA set).setIfInBounds k (.bool b) = boolA (set.set k b) := by
  unfold boolA
  rw [List.setIfInBounds_toArray, List.map_set]
theorem curAt_again {w : World} {g : Nat} {T : TypeId} {cs : Array Value} {ws : List Wd} {u k : Nat} {x : Value} (h : CurAt w g T ((cs.setIfInBounds 3 x).setIfInBounds 3 (.int .i64 (k : Int))) ws u) : CurAt w g T (cs.setIfInBounds 3 (.int .i64 (k : Int))) ws u := by
  rw [Array.setIfInBounds_setIfInBounds] at h
  exact h
theorem idxFrom_bound (x : ByteArray) : ∀ (zs : List ByteArray) (i : Nat), Lib.idxFromS zs x i < 0 ∨ ((i : Int) ≤ Lib.idxFromS zs x i ∧ Lib.idxFromS zs x i < (i : Int) + zs.length)
  | [], i => .inl (by simp [Lib.idxFromS])
  | z :: zs, i => by
    by_cases h : z = x
    · right
      have : Lib.idxFromS (z :: zs) x i = (i : Int) := by simp [Lib.idxFromS, h]
      rw [this, List.length_cons]
      omega
    · have h1 : Lib.idxFromS (z :: zs) x i = Lib.idxFromS zs x (i + 1) := by simp [Lib.idxFromS, h]
      rw [h1, List.length_cons]
      rcases idxFrom_bound x zs (i + 1) with h2 | ⟨h2, h3⟩
      · exact .inl h2
      · right
        omega
theorem idx_lt {ts : List ByteArray} {s : ByteArray} (h : ¬ Lib.idxOfS ts s < 0) : (Lib.idxOfS ts s).toNat < ts.length := by
  rcases idxFrom_bound s ts 0 with h1 | ⟨h1, h2⟩
  · exact absurd h1 h
  · have h2 : Lib.idxOfS ts s < ((0 : Nat) : Int) + ts.length := h2
    omega
structure OptAt (W1 : World) (g : Nat) (T : TypeId) (cs : Array Value) (ws : List Wd) (bn bs bf : Nat) (nm : List ByteArray) (rc : Flg → Array Value) (wr : World) (u : Nat) (set : List Bool) (f : Flg) : Prop where
  cur : CurAt wr g T (cs.setIfInBounds 3 (.int .i64 (u : Int))) ws u
  names : Blk wr bn 9 (nm.map Value.string).toArray
  bits : Blk wr bs 4 (boolA set)
  flags : Blk wr bf 66 (rc f)
  gr : W1.grownBy wr (some g)
  hs : W1.heap.size ≤ bs
  hf : W1.heap.size ≤ bf
theorem OptAt.below {W1 : World} {g : Nat} {T : TypeId} {cs : Array Value} {ws : List Wd} {bn bs bf : Nat} {nm : List ByteArray} {rc : Flg → Array Value} {wr w' : World} {u : Nat} {set : List Bool} {f : Flg} (h : OptAt W1 g T cs ws bn bs bf nm rc wr u set f) (hb : Below wr.heap.size wr w') : OptAt W1 g T cs ws bn bs bf nm rc w' u set f :=
  ⟨h.cur.below hb, h.names.call hb, h.bits.call hb, h.flags.call hb, only_trans h.gr (only_of_below hb _), h.hs, h.hf⟩
theorem OptAt.next {W1 : World} {g : Nat} {cs : Array Value} {ws : List Wd} {bn bs bf : Nat} {nm : List ByteArray} {rc : Flg → Array Value} {wr w' : World} {u : Nat} {set : List Bool} {f : Flg} (h : OptAt W1 g 92 cs ws bn bs bf nm rc wr u set f) (hg : wr.grownBy w' (some g))
    (hc : CurAt w' g 92 ((cs.setIfInBounds 3 (.int .i64 (u : Int))).setIfInBounds 3 (.int .i64 ((u + 1 : Nat) : Int))) ws (u + 1)) : OptAt W1 g 92 cs ws bn bs bf nm rc w' (u + 1) set f := by
  have n1 : bn ≠ g := h.names.ne_ h.cur.blk (by decide)
  have n2 : bs ≠ g := h.bits.ne_ h.cur.blk (by decide)
  have n3 : bf ≠ g := h.flags.ne_ h.cur.blk (by decide)
  exact ⟨curAt_again hc, h.names.grown hg (by simpa using n1), h.bits.grown hg (by simpa using n2), h.flags.grown hg (by simpa using n3), only_trans h.gr hg, h.hs, h.hf⟩
theorem CurAt.far {w : World} {g : Nat} {T : TypeId} {cs : Array Value} {ws : List Wd} {u : Nat} (h : CurAt w g T cs ws u) {p : Addr} (hp : g < p.block) (x : Value) : CurAt (w.setCell p x) g T cs ws u := by
  obtain ⟨h1, ⟨A, n, c, h2, h3, h4, h5⟩, h6, h7⟩ := h
  refine ⟨h1.far (by omega) x, ⟨A, n, c, h2, h3, fun hn => ?_, h5⟩, h6, h7⟩
  obtain ⟨b, off, ha, hl, hc⟩ := h4 hn
  have hb := h5 _ ha
  refine ⟨b, off, ha, by simpa [World.setCell] using hl, fun i j hi hj => ?_⟩
  have hne : b ≠ p.block := by have hb : b < g := hb; omega
  rw [World.cell?_of_block (w := w) (a := ⟨b, off + i * 3 + j, none⟩) (Below.heap_setCell w p x b hne)]
  exact hc i j hi hj
theorem OptAt.bit {W1 : World} {g : Nat} {T : TypeId} {cs : Array Value} {ws : List Wd} {bn bs bf : Nat} {nm : List ByteArray} {rc : Flg → Array Value} {wr : World} {u : Nat} {set : List Bool} {f : Flg} (h : OptAt W1 g T cs ws bn bs bf nm rc wr u set f) (hg : g < W1.heap.size) (k : Nat) (b : Bool) :
    OptAt W1 g T cs ws bn bs bf nm rc (wr.setCell ⟨bs, k, none⟩ (.bool b)) u (set.set k b) f := by
  have n1 : bn ≠ bs := h.names.ne_ h.bits (by decide)
  have n3 : bf ≠ bs := h.flags.ne_ h.bits (by decide)
  refine ⟨h.cur.far (by show g < bs; have := h.hs; omega) _, h.names.far n1 _, ?_, h.flags.far n3 _, only_setCell h.gr (Or.inr h.hs) _, h.hs, h.hf⟩
  rw [← boolA_set]
  exact h.bits.set_ k _
theorem drop_l {α : Type} {l : List α} {k : Nat} {x : α} (h : l[k]? = some x) : l.drop k = x :: l.drop (k + 1) := by
  obtain ⟨hk, rfl⟩ := List.getElem?_eq_some_iff.1 h
  exact List.drop_eq_getElem_cons hk
theorem runP_at (N : Nat) : ∀ (L : List ByteArray) (st : Put) (a : Nat), (∀ p ∈ L, p.size ≤ N) → (runP L st a).2.2 ≤ a + L.length * (N + 1)
  | [], st, a, _ => by simp [runP]
  | p :: L, st, a, h => by
    have hp := h p (by simp)
    unfold runP
    by_cases h0 : (putP st p).2 = 0
    · rw [if_pos h0]
      have := runP_at N L (putP st p).1 (a + p.size + 1) (fun q hq => h q (by simp [hq]))
      rw [List.length_cons, Nat.succ_mul]
      omega
    · rw [if_neg h0]
      exact Nat.le_add_right _ _
theorem parse_at (s : ByteArray) (hs : s.size ≤ 100000) : (parseS s).2.2 ≤ 20000000000 := by
  unfold parseS parseF
  by_cases h0 : s.size = 0
  · rw [if_pos h0]; exact Nat.zero_le _
  rw [if_neg h0]
  by_cases h1 : byS s 0 ≠ 91
  · rw [if_pos h1]; exact Nat.zero_le _
  rw [if_neg h1]
  by_cases h2 : s.size = 1
  · rw [if_pos h2]; exact Nat.le_of_ble_eq_true rfl
  rw [if_neg h2]
  by_cases h3 : byS s (s.size - 1) ≠ 93
  · rw [if_pos h3]; show s.size - 1 ≤ _; omega
  rw [if_neg h3]
  have h := runP_at 100000 (partsF s) zeroPut 1 (fun p hp => Nat.le_trans (parts_small s (by omega) p hp) hs)
  have hl := parts_le s (by omega)
  have h4 : (partsF s).length * (100000 + 1) ≤ 100000 * (100000 + 1) := Nat.mul_le_mul_right _ (by omega)
  generalize runP (partsF s) zeroPut 1 = R at h
  unfold doneR
  by_cases h5 : R.2.1 = 0
  · rw [if_pos h5]
    by_cases h6 : wholeP R.1 = 0
    · rw [if_pos h6]; exact Nat.zero_le _
    · rw [if_neg h6]; exact Nat.zero_le _
  · rw [if_neg h5]
    show R.2.2 ≤ _
    omega
/-- The post of options. -/
def OptsP (W1 : World) (g : Nat) (T : TypeId) (cs : Array Value) (ws : List Wd) (bs bf : Nat) (rc : Flg → Array Value) (n : Nat) (r : Option (List Bool × Flg) × Int × Int) (e : Ending) (W' : World) : Prop :=
  (match r with
  | (some (set, f), _) => e = .returned (.tuple #[.slice (some ⟨bs, 0, none⟩) n n, .bool true]) ∧ CurAt W' g T (cs.setIfInBounds 3 (.int .i64 (ws.length : Int))) ws ws.length ∧ Blk W' bs 4 (boolA set) ∧ set.length = n ∧ Blk W' bf 66 (rc f)
  | (none, er, a) => e = .returned (.tuple #[.slice none 0 0, .bool false]) ∧ ∃ u : Nat, Blk W' g T (((cs.setIfInBounds 3 (.int .i64 (u : Int))).setIfInBounds 4 (.int .i64 er)).setIfInBounds 5 (.int .i64 a))) ∧ W1.grownBy W' (some g)
theorem isBr_pre (s : ByteArray) : Lib.hasPrefix s.data.toList [91] = isBr s := pre_one _
def ruA (p : ByteArray) (nc : Bool) (u : Value) (tg : ByteArray) (f : Flg) : Array Value := #[.string p, .bool nc, u, .string tg, Value.bool f.last, .bool f.next, .bool f.chain, .bool f.fin, .bool f.forb, .bool f.gone, .bool f.app, .bool f.disc, .int .i64 f.skip, .int .i64 f.red]
theorem OptAt.flag1 {W1 : World} {g : Nat} {T : TypeId} {cs : Array Value} {ws : List Wd} {bn bs bf : Nat} {nm : List ByteArray} {X Y : Array Value} {wr : World} {u : Nat} {set : List Bool} {f f' : Flg} (h : OptAt W1 g T cs ws bn bs bf nm (fun _ => X) wr u set f) (hg : g < W1.heap.size) (k : Nat) (v : Value) (hY : X.setIfInBounds k v = Y) :
    OptAt W1 g T cs ws bn bs bf nm (fun _ => Y) (wr.setCell ⟨bf, k, none⟩ v) u set f' := by
  have n1 : bn ≠ bf := h.names.ne_ h.flags (by decide)
  have n3 : bs ≠ bf := h.bits.ne_ h.flags (by decide)
  refine ⟨h.cur.far (by show g < bf; have := h.hf; omega) _, h.names.far n1 _, h.bits.far n3 _, ?_, only_setCell h.gr (Or.inr h.hf) _, h.hs, h.hf⟩
  rw [← hY]
  exact h.flags.set_ k _
theorem OptAt.turn {W1 : World} {g : Nat} {T : TypeId} {cs : Array Value} {ws : List Wd} {bn bs bf : Nat} {nm : List ByteArray} {rc rc' : Flg → Array Value} {wr : World} {u : Nat} {set : List Bool} {f f' : Flg} (h : OptAt W1 g T cs ws bn bs bf nm rc wr u set f) (he : rc f = rc' f') : OptAt W1 g T cs ws bn bs bf nm rc' wr u set f' :=
  ⟨h.cur, h.names, h.bits, by rw [← he]; exact h.flags, h.gr, h.hs, h.hf⟩
theorem OptAt.flag {W1 : World} {g : Nat} {T : TypeId} {cs : Array Value} {ws : List Wd} {bn bs bf : Nat} {nm : List ByteArray} {p tg : ByteArray} {nc : Bool} {u0 : Value} {wr : World} {u : Nat} {set : List Bool} {f : Flg} (h : OptAt W1 g T cs ws bn bs bf nm (ruA p nc u0 tg) wr u set f) (hg : g < W1.heap.size) (f' : Flg) :
    OptAt W1 g T cs ws bn bs bf nm (ruA p nc u0 tg) (((((((((((wr.setCell ⟨bf, 4, none⟩ (.bool f'.last)).setCell ⟨bf, 5, none⟩ (.bool f'.next)).setCell ⟨bf, 6, none⟩ (.bool f'.chain)).setCell ⟨bf, 7, none⟩ (.bool f'.fin)).setCell ⟨bf, 8, none⟩ (.bool f'.forb)).setCell ⟨bf, 9, none⟩ (.bool f'.gone)).setCell ⟨bf, 10, none⟩ (.bool f'.app)).setCell ⟨bf, 11, none⟩ (.bool f'.disc)).setCell ⟨bf, 12, none⟩ (.int .i64 f'.skip)).setCell ⟨bf, 13, none⟩ (.int .i64 f'.red))) u set f' :=
  OptAt.turn (OptAt.flag1 (f' := f) (Y := ruA p nc u0 tg ⟨f'.last, f'.next, f'.chain, f'.fin, f'.forb, f'.gone, f'.app, f'.disc, f'.skip, f'.red⟩) (OptAt.flag1 (f' := f) (Y := ruA p nc u0 tg ⟨f'.last, f'.next, f'.chain, f'.fin, f'.forb, f'.gone, f'.app, f'.disc, f'.skip, f.red⟩) (OptAt.flag1 (f' := f) (Y := ruA p nc u0 tg ⟨f'.last, f'.next, f'.chain, f'.fin, f'.forb, f'.gone, f'.app, f'.disc, f.skip, f.red⟩) (OptAt.flag1 (f' := f) (Y := ruA p nc u0 tg ⟨f'.last, f'.next, f'.chain, f'.fin, f'.forb, f'.gone, f'.app, f.disc, f.skip, f.red⟩) (OptAt.flag1 (f' := f) (Y := ruA p nc u0 tg ⟨f'.last, f'.next, f'.chain, f'.fin, f'.forb, f'.gone, f.app, f.disc, f.skip, f.red⟩) (OptAt.flag1 (f' := f) (Y := ruA p nc u0 tg ⟨f'.last, f'.next, f'.chain, f'.fin, f'.forb, f.gone, f.app, f.disc, f.skip, f.red⟩) (OptAt.flag1 (f' := f) (Y := ruA p nc u0 tg ⟨f'.last, f'.next, f'.chain, f'.fin, f.forb, f.gone, f.app, f.disc, f.skip, f.red⟩) (OptAt.flag1 (f' := f) (Y := ruA p nc u0 tg ⟨f'.last, f'.next, f'.chain, f.fin, f.forb, f.gone, f.app, f.disc, f.skip, f.red⟩) (OptAt.flag1 (f' := f) (Y := ruA p nc u0 tg ⟨f'.last, f'.next, f.chain, f.fin, f.forb, f.gone, f.app, f.disc, f.skip, f.red⟩) (OptAt.flag1 (f' := f) (Y := ruA p nc u0 tg ⟨f'.last, f.next, f.chain, f.fin, f.forb, f.gone, f.app, f.disc, f.skip, f.red⟩) (h.turn (rc' := fun _ => ruA p nc u0 tg f) (f' := f) rfl) hg 4 (.bool f'.last) rfl) hg 5 (.bool f'.next) rfl) hg 6 (.bool f'.chain) rfl) hg 7 (.bool f'.fin) rfl) hg 8 (.bool f'.forb) rfl) hg 9 (.bool f'.gone) rfl) hg 10 (.bool f'.app) rfl) hg 11 (.bool f'.disc) rfl) hg 12 (.int .i64 f'.skip) rfl) hg 13 (.int .i64 f'.red) rfl) rfl
set_option maxRecDepth 100000 in
set_option maxHeartbeats 8000000 in
theorem opts_rule (W1 : World) (g : Nat) (cs : Array Value) (ws : List Wd) (bn bf : Nat) (p : ByteArray) (nc : Bool) (u0 : Value) (tg : ByteArray) (w : World) (hg : g < W1.heap.size)
    (hgr : W1.grownBy w (some g)) (hc : CurAt w g 92 (cs.setIfInBounds 3 (.int .i64 3)) ws 3) (hn : Blk w bn 9 #[.string sNocase]) (hf : Blk w bf 66 (ruA p nc u0 tg zeroF)) (hfW : W1.heap.size ≤ bf)
    (h4 : cs[4]? = some (.int .i64 0)) (h3 : 3 ≤ ws.length) (hl : ws.length ≤ 100000) (hs : ∀ d ∈ ws, d.t.size ≤ 100000 ∧ 0 ≤ d.a ∧ d.a ≤ 1000000000) (hE : ∀ W, W1.grownBy W (some g) → Tabs W ∧ MaxOk W) :
    Calls Tryz.prog 126 #[.pointer (some ⟨g, 0, none⟩), .slice (some ⟨bn, 0, none⟩) 1 1, .pointer (some ⟨bf, 4, none⟩)] w
      (OptsP W1 g 92 cs ws w.heap.size bf (ruA p nc u0 tg) 1 (optsP ruleL true (ws.drop 3) [false] 0 false zeroF)) := by
  have hmk := mk_bool1 w
  obtain ⟨R, hR⟩ : ∃ R, R = optsP ruleL true (ws.drop 3) [false] 0 false zeroF := ⟨_, rfl⟩
  rw [← hR]
  have hb0 : Below w.heap.size w (w.alloc (.cells #[.bool false] 4)) := gr_alloc (Below.refl _ _) _
  have h0 : OptAt W1 g 92 cs ws bn w.heap.size bf ruleL (ruA p nc u0 tg) (w.alloc (.cells #[.bool false] 4)) 3 [false] zeroF :=
    ⟨hc.below hb0, hn.call hb0, Blk.new _ _ _, hf.call hb0, only_trans hgr (only_of_below hb0 _), hgr.size, hfW⟩
  have HA := Lib.hid (And.intro h0 (And.intro hE (And.intro hs (And.intro h4 hR))))
  clear hc hn hf hgr hb0 h0 hE hs h4 hR
  go_enter Tryz.func126, Tryz.ntmps126
  go_wp2_with (fail)
  obtain ⟨bs, hbs⟩ : ∃ b, b = w.heap.size := ⟨_, rfl⟩
  obtain ⟨nl, hnl⟩ : ∃ n, n = ws.length := ⟨_, rfl⟩
  go_loopg [9, 10] (nl - 3) (fun m nv hv wr => ∃ (u : Nat) (set : List Bool) (nx : Nat) (had : Bool) (f : Flg), m = nl - u ∧ 3 ≤ u ∧ u ≤ nl ∧ nv = .int .i64 (nx : Int) ∧ hv = .bool had ∧ R = optsP ruleL true (ws.drop u) set nx had f ∧ set.length = 1 ∧ nx ≤ 1 ∧ OptAt W1 g 92 cs ws bn w.heap.size bf ruleL (ruA p nc u0 tg) wr u set f)
  case atStart => exact ⟨3, [false], 0, false, zeroF, rfl, Nat.le_refl _, by omega, rfl, rfl, HA.out.2.2.2.2, rfl, by omega, HA.out.1⟩
  case round =>
    obtain ⟨u, set, nx, had, f, hm, h3u, hun, rfl, rfl, hRu, hsl, hnx, ho⟩ := hrel
    have hleft := left_code g _ _ ws u wr ho.cur (by omega) (by omega)
    have hgl := ho.cur.blk.lt
    by_cases hlt : u < nl
    · obtain ⟨d, hd⟩ : ∃ d, ws[u]? = some d := ⟨_, List.getElem?_eq_getElem (by omega)⟩
      have hds := HA.out.2.2.1 d (List.mem_of_getElem? hd)
      have hdrop := drop_l hd
      rw [hdrop] at hRu
      rw [← hnl] at hleft
      have hgt : (0 : Int) < (nl : Int) - u := by omega
      have F := Lib.hid (And.intro hm (And.intro hRu (And.intro hsl (And.intro hd (And.intro ho hds)))))
      clear hm hRu hsl hd hdrop hds ho
      go_wp2_with (fail)
      refine hleft.mono ?_
      rintro e W ⟨rfl, q, rfl⟩
      clear hleft
      have hoq := F.out.2.2.2.2.1.below (below_drewN (Below.refl _ _) q)
      have hnx1 := next_code g _ _ ws u d _ hoq.cur (by omega) F.out.2.2.2.1
      have Q := Lib.hid hoq
      clear hoq
      go_wp2_with (fail)
      refine hnx1.mono ?_
      rintro e W2 ⟨rfl, hc2, hg2⟩
      clear hnx1
      have ho2 := Q.out.next hg2 hc2
      have hbo : Below W2.heap.size W2 (W2.alloc (.cells #[.int .i64 d.a, .string d.t, .bool d.q] 116)) := gr_alloc (Below.refl _ _) _
      have hx3 : Blk (W2.alloc (.cells #[.int .i64 d.a, .string d.t, .bool d.q] 116)) W2.heap.size 116 #[.int .i64 d.a, .string d.t, .bool d.q] := Blk.new _ _ _
      have ho3 := ho2.below hbo
      have hpre := Tryz.strings_HasPrefix d.t ⟨#[91]⟩ (W2.alloc (.cells #[.int .i64 d.a, .string d.t, .bool d.q] 116))
      have hpre : Calls Tryz.prog 153 #[.string d.t, .string ⟨#[91]⟩] (W2.alloc (.cells #[.int .i64 d.a, .string d.t, .bool d.q] 116)) fun e w' => e = .returned (.bool (isBr d.t)) ∧ w' = (W2.alloc (.cells #[.int .i64 d.a, .string d.t, .bool d.q] 116)) := by rw [← isBr_pre]; exact hpre
      have x0 : (W2.alloc (.cells #[.int .i64 d.a, .string d.t, .bool d.q] 116)).cell? ⟨W2.heap.size, 0, none⟩ = some (.int .i64 d.a) := hx3.cell' (i := 0) rfl
      have x1 : (W2.alloc (.cells #[.int .i64 d.a, .string d.t, .bool d.q] 116)).cell? ⟨W2.heap.size, 1, none⟩ = some (.string d.t) := hx3.cell' (i := 1) rfl
      have x2 : (W2.alloc (.cells #[.int .i64 d.a, .string d.t, .bool d.q] 116)).cell? ⟨W2.heap.size, 2, none⟩ = some (.bool d.q) := hx3.cell' (i := 2) rfl
      have xl := hx3.lt
      have hgl := ho3.cur.blk.lt
      have O := Lib.hid (And.intro ho3 hx3)
      clear hc2 hg2 ho2 hbo ho3 hx3 Q
      go_wp2_with (fail)
      refine hpre.mono ?_
      rintro e W3 ⟨rfl, hW3⟩
      clear hpre
      rw [← hW3] at O x0 x1 x2 xl hgl
      clear hW3
      obtain ⟨bx, hbx⟩ : ∃ b, b = W2.heap.size := ⟨_, rfl⟩
      rw [← hbx] at O x0 x1 x2 xl ⊢
      clear hbx
      cases hbr : isBr d.t with
      | true =>
        cases had with
        | true =>
          have hres : R = (none, 8, d.a) := by rw [F.out.2.1, optsP, if_pos ⟨rfl, hbr⟩, if_pos rfl]
          have hf := fun W (h : Blk W g 92 (cs.setIfInBounds 3 (.int .i64 ((u + 1 : Nat) : Int)))) => fails_code g _ _ 8 d.a W h O.out.1.cur.size (by rw [Array.getElem?_setIfInBounds_ne (by decide)]; exact HA.out.2.2.2.1)
          have X := Lib.hid (And.intro hres hf)
          clear hres hf
          go_wp2_with (fail)
          go_still_tail 5, (by kernel_rfl)
          go_wp2_with (fail)
          refine (X.out.2 _ (by exact O.out.1.cur.blk.drewN _)).mono ?_
          rintro e W5 ⟨rfl, hb5, hg5⟩
          have Z := Lib.hid (And.intro hb5 hg5)
          clear hb5 hg5
          go_wp2_with (fail)
          go_ret2
          rw [X.out.1]
          exact ⟨⟨rfl, u + 1, Z.out.1⟩, only_trans (only_drewN O.out.1.gr _) Z.out.2⟩
        | false =>
          have hTM := HA.out.2.1 W3 O.out.1.gr
          have hpa := fparse d.t (by have := F.out.2.2.2.2.2.1; omega) W3 hTM.1 hTM.2
          obtain ⟨r, hr⟩ : ∃ r, r = parseS d.t := ⟨_, rfl⟩
          rw [← hr] at hpa
          have hRr : R = if r.2.1 = 0 then optsP ruleL true (ws.drop (u + 1)) set nx true r.1 else (none, r.2.1, d.a + if d.q then 0 else ((r.2.2 : Nat) : Int)) := by
            rw [F.out.2.1, optsP, if_pos ⟨rfl, hbr⟩, if_neg (by decide), ← hr]
          have hr2 : r.2.2 ≤ 20000000000 := by rw [hr]; exact parse_at d.t F.out.2.2.2.2.2.1
          have X0 := Lib.hid hRr
          clear hRr hr hTM
          go_wp2_with (fail)
          refine hpa.mono ?_
          rintro e W4 ⟨rfl, hb4⟩
          clear hpa
          have hbV : Below W3.heap.size W3 ((W4.alloc (.cells #[Value.bool r.1.last, .bool r.1.next, .bool r.1.chain, .bool r.1.fin, .bool r.1.forb, .bool r.1.gone, .bool r.1.app, .bool r.1.disc, .int .i64 r.1.skip, .int .i64 r.1.red] 64)).alloc (.cells #[.int .i64 r.2.1, .int .i64 (r.2.2 : Int)] 33)) := gr_alloc (gr_alloc hb4 _) _
          have oV := O.out.1.below hbV
          have xV := O.out.2.call hbV
          have y0 : ((W4.alloc (.cells #[Value.bool r.1.last, .bool r.1.next, .bool r.1.chain, .bool r.1.fin, .bool r.1.forb, .bool r.1.gone, .bool r.1.app, .bool r.1.disc, .int .i64 r.1.skip, .int .i64 r.1.red] 64)).alloc (.cells #[.int .i64 r.2.1, .int .i64 (r.2.2 : Int)] 33)).cell? ⟨bx, 0, none⟩ = some (.int .i64 d.a) := xV.cell' (i := 0) rfl
          have y1 : ((W4.alloc (.cells #[Value.bool r.1.last, .bool r.1.next, .bool r.1.chain, .bool r.1.fin, .bool r.1.forb, .bool r.1.gone, .bool r.1.app, .bool r.1.disc, .int .i64 r.1.skip, .int .i64 r.1.red] 64)).alloc (.cells #[.int .i64 r.2.1, .int .i64 (r.2.2 : Int)] 33)).cell? ⟨bx, 1, none⟩ = some (.string d.t) := xV.cell' (i := 1) rfl
          have y2 : ((W4.alloc (.cells #[Value.bool r.1.last, .bool r.1.next, .bool r.1.chain, .bool r.1.fin, .bool r.1.forb, .bool r.1.gone, .bool r.1.app, .bool r.1.disc, .int .i64 r.1.skip, .int .i64 r.1.red] 64)).alloc (.cells #[.int .i64 r.2.1, .int .i64 (r.2.2 : Int)] 33)).cell? ⟨bx, 2, none⟩ = some (.bool d.q) := xV.cell' (i := 2) rfl
          have yl := xV.lt
          have ygl := oV.cur.blk.lt
          have fV : Blk ((W4.alloc (.cells #[Value.bool r.1.last, .bool r.1.next, .bool r.1.chain, .bool r.1.fin, .bool r.1.forb, .bool r.1.gone, .bool r.1.app, .bool r.1.disc, .int .i64 r.1.skip, .int .i64 r.1.red] 64)).alloc (.cells #[.int .i64 r.2.1, .int .i64 (r.2.2 : Int)] 33)) (W4.heap.size + 1) 33 #[.int .i64 r.2.1, .int .i64 (r.2.2 : Int)] := blk_at (by simp)
          have z0 : ((W4.alloc (.cells #[Value.bool r.1.last, .bool r.1.next, .bool r.1.chain, .bool r.1.fin, .bool r.1.forb, .bool r.1.gone, .bool r.1.app, .bool r.1.disc, .int .i64 r.1.skip, .int .i64 r.1.red] 64)).alloc (.cells #[.int .i64 r.2.1, .int .i64 (r.2.2 : Int)] 33)).cell? ⟨W4.heap.size + 1, 0, none⟩ = some (.int .i64 r.2.1) := fV.cell' (i := 0) rfl
          have z1 : ((W4.alloc (.cells #[Value.bool r.1.last, .bool r.1.next, .bool r.1.chain, .bool r.1.fin, .bool r.1.forb, .bool r.1.gone, .bool r.1.app, .bool r.1.disc, .int .i64 r.1.skip, .int .i64 r.1.red] 64)).alloc (.cells #[.int .i64 r.2.1, .int .i64 (r.2.2 : Int)] 33)).cell? ⟨W4.heap.size + 1, 1, none⟩ = some (.int .i64 (r.2.2 : Int)) := fV.cell' (i := 1) rfl
          have zf := fV.frozen 1
          have zl := fV.lt
          have OV := Lib.hid (And.intro oV (And.intro fV xV))
          have hgW4 := Lib.hid hb4
          have hgW : g < W4.heap.size + 1 := by have h1 := O.out.1.cur.blk.lt; have h2 := hb4.size; omega
          have hxW : bx < W4.heap.size + 1 := by have h1 := O.out.2.lt; have h2 := hb4.size; omega
          clear oV fV xV hbV hb4
          by_cases h0 : r.2.1 = 0
          · have h0b : (r.2.1 != 0) = false := by rw [h0]; rfl
            have hres : R = optsP ruleL true (ws.drop (u + 1)) set nx true r.1 := by rw [X0.out, if_pos h0]
            have k4 : ((W4.alloc (.cells #[Value.bool r.1.last, .bool r.1.next, .bool r.1.chain, .bool r.1.fin, .bool r.1.forb, .bool r.1.gone, .bool r.1.app, .bool r.1.disc, .int .i64 r.1.skip, .int .i64 r.1.red] 64)).alloc (.cells #[.int .i64 r.2.1, .int .i64 (r.2.2 : Int)] 33)).cell? ⟨bf, 4, none⟩ = some (.bool f.last) := OV.out.1.flags.cell' (i := 4) rfl
            have j4 := OV.out.1.flags.frozen 4
            have k5 : ((W4.alloc (.cells #[Value.bool r.1.last, .bool r.1.next, .bool r.1.chain, .bool r.1.fin, .bool r.1.forb, .bool r.1.gone, .bool r.1.app, .bool r.1.disc, .int .i64 r.1.skip, .int .i64 r.1.red] 64)).alloc (.cells #[.int .i64 r.2.1, .int .i64 (r.2.2 : Int)] 33)).cell? ⟨bf, 5, none⟩ = some (.bool f.next) := OV.out.1.flags.cell' (i := 5) rfl
            have j5 := OV.out.1.flags.frozen 5
            have k6 : ((W4.alloc (.cells #[Value.bool r.1.last, .bool r.1.next, .bool r.1.chain, .bool r.1.fin, .bool r.1.forb, .bool r.1.gone, .bool r.1.app, .bool r.1.disc, .int .i64 r.1.skip, .int .i64 r.1.red] 64)).alloc (.cells #[.int .i64 r.2.1, .int .i64 (r.2.2 : Int)] 33)).cell? ⟨bf, 6, none⟩ = some (.bool f.chain) := OV.out.1.flags.cell' (i := 6) rfl
            have j6 := OV.out.1.flags.frozen 6
            have k7 : ((W4.alloc (.cells #[Value.bool r.1.last, .bool r.1.next, .bool r.1.chain, .bool r.1.fin, .bool r.1.forb, .bool r.1.gone, .bool r.1.app, .bool r.1.disc, .int .i64 r.1.skip, .int .i64 r.1.red] 64)).alloc (.cells #[.int .i64 r.2.1, .int .i64 (r.2.2 : Int)] 33)).cell? ⟨bf, 7, none⟩ = some (.bool f.fin) := OV.out.1.flags.cell' (i := 7) rfl
            have j7 := OV.out.1.flags.frozen 7
            have k8 : ((W4.alloc (.cells #[Value.bool r.1.last, .bool r.1.next, .bool r.1.chain, .bool r.1.fin, .bool r.1.forb, .bool r.1.gone, .bool r.1.app, .bool r.1.disc, .int .i64 r.1.skip, .int .i64 r.1.red] 64)).alloc (.cells #[.int .i64 r.2.1, .int .i64 (r.2.2 : Int)] 33)).cell? ⟨bf, 8, none⟩ = some (.bool f.forb) := OV.out.1.flags.cell' (i := 8) rfl
            have j8 := OV.out.1.flags.frozen 8
            have k9 : ((W4.alloc (.cells #[Value.bool r.1.last, .bool r.1.next, .bool r.1.chain, .bool r.1.fin, .bool r.1.forb, .bool r.1.gone, .bool r.1.app, .bool r.1.disc, .int .i64 r.1.skip, .int .i64 r.1.red] 64)).alloc (.cells #[.int .i64 r.2.1, .int .i64 (r.2.2 : Int)] 33)).cell? ⟨bf, 9, none⟩ = some (.bool f.gone) := OV.out.1.flags.cell' (i := 9) rfl
            have j9 := OV.out.1.flags.frozen 9
            have k10 : ((W4.alloc (.cells #[Value.bool r.1.last, .bool r.1.next, .bool r.1.chain, .bool r.1.fin, .bool r.1.forb, .bool r.1.gone, .bool r.1.app, .bool r.1.disc, .int .i64 r.1.skip, .int .i64 r.1.red] 64)).alloc (.cells #[.int .i64 r.2.1, .int .i64 (r.2.2 : Int)] 33)).cell? ⟨bf, 10, none⟩ = some (.bool f.app) := OV.out.1.flags.cell' (i := 10) rfl
            have j10 := OV.out.1.flags.frozen 10
            have k11 : ((W4.alloc (.cells #[Value.bool r.1.last, .bool r.1.next, .bool r.1.chain, .bool r.1.fin, .bool r.1.forb, .bool r.1.gone, .bool r.1.app, .bool r.1.disc, .int .i64 r.1.skip, .int .i64 r.1.red] 64)).alloc (.cells #[.int .i64 r.2.1, .int .i64 (r.2.2 : Int)] 33)).cell? ⟨bf, 11, none⟩ = some (.bool f.disc) := OV.out.1.flags.cell' (i := 11) rfl
            have j11 := OV.out.1.flags.frozen 11
            have k12 : ((W4.alloc (.cells #[Value.bool r.1.last, .bool r.1.next, .bool r.1.chain, .bool r.1.fin, .bool r.1.forb, .bool r.1.gone, .bool r.1.app, .bool r.1.disc, .int .i64 r.1.skip, .int .i64 r.1.red] 64)).alloc (.cells #[.int .i64 r.2.1, .int .i64 (r.2.2 : Int)] 33)).cell? ⟨bf, 12, none⟩ = some (.int .i64 f.skip) := OV.out.1.flags.cell' (i := 12) rfl
            have j12 := OV.out.1.flags.frozen 12
            have k13 : ((W4.alloc (.cells #[Value.bool r.1.last, .bool r.1.next, .bool r.1.chain, .bool r.1.fin, .bool r.1.forb, .bool r.1.gone, .bool r.1.app, .bool r.1.disc, .int .i64 r.1.skip, .int .i64 r.1.red] 64)).alloc (.cells #[.int .i64 r.2.1, .int .i64 (r.2.2 : Int)] 33)).cell? ⟨bf, 13, none⟩ = some (.int .i64 f.red) := OV.out.1.flags.cell' (i := 13) rfl
            have j13 := OV.out.1.flags.frozen 13
            have kl := OV.out.1.flags.lt
            have X := Lib.hid hres
            clear hres h0
            go_wp2_with (fail)
            go_roundg (nl - (u + 1))
            case measure => have := F.out.1; omega
            case rel => exact ⟨u + 1, set, nx, true, r.1, rfl, by omega, by omega, rfl, rfl, X.out, F.out.2.2.1, hnx, OV.out.1.flag hg r.1⟩
          · have h0b : (r.2.1 != 0) = true := bne_iff_ne.2 h0
            have hda := F.out.2.2.2.2.2.2
            cases hq : d.q with
            | true =>
              have hres : R = (none, r.2.1, d.a) := by rw [X0.out, if_neg h0, hq, if_pos rfl, Int.add_zero]
              rw [hq] at y2
              have hf := fun W (h : Blk W g 92 (cs.setIfInBounds 3 (.int .i64 ((u + 1 : Nat) : Int)))) => fails_code g _ _ r.2.1 d.a W h O.out.1.cur.size (by rw [Array.getElem?_setIfInBounds_ne (by decide)]; exact HA.out.2.2.2.1)
              have X := Lib.hid (And.intro hres hf)
              clear hres hf
              have hbS : Below W3.heap.size W3 ((W4.alloc (.cells #[Value.bool r.1.last, .bool r.1.next, .bool r.1.chain, .bool r.1.fin, .bool r.1.forb, .bool r.1.gone, .bool r.1.app, .bool r.1.disc, .int .i64 r.1.skip, .int .i64 r.1.red] 64)).alloc (.cells #[.int .i64 r.2.1, .int .i64 0] 33)) := gr_alloc (gr_alloc hgW4.out _) _
              have fS : Blk ((W4.alloc (.cells #[Value.bool r.1.last, .bool r.1.next, .bool r.1.chain, .bool r.1.fin, .bool r.1.forb, .bool r.1.gone, .bool r.1.app, .bool r.1.disc, .int .i64 r.1.skip, .int .i64 r.1.red] 64)).alloc (.cells #[.int .i64 r.2.1, .int .i64 0] 33)) (W4.heap.size + 1) 33 #[.int .i64 r.2.1, .int .i64 0] := blk_at (by simp)
              have xS := O.out.2.call hbS
              have s0 : ((W4.alloc (.cells #[Value.bool r.1.last, .bool r.1.next, .bool r.1.chain, .bool r.1.fin, .bool r.1.forb, .bool r.1.gone, .bool r.1.app, .bool r.1.disc, .int .i64 r.1.skip, .int .i64 r.1.red] 64)).alloc (.cells #[.int .i64 r.2.1, .int .i64 0] 33)).cell? ⟨W4.heap.size + 1, 0, none⟩ = some (.int .i64 r.2.1) := fS.cell' (i := 0) rfl
              have s1 : ((W4.alloc (.cells #[Value.bool r.1.last, .bool r.1.next, .bool r.1.chain, .bool r.1.fin, .bool r.1.forb, .bool r.1.gone, .bool r.1.app, .bool r.1.disc, .int .i64 r.1.skip, .int .i64 r.1.red] 64)).alloc (.cells #[.int .i64 r.2.1, .int .i64 0] 33)).cell? ⟨W4.heap.size + 1, 1, none⟩ = some (.int .i64 0) := fS.cell' (i := 1) rfl
              have s2 : ((W4.alloc (.cells #[Value.bool r.1.last, .bool r.1.next, .bool r.1.chain, .bool r.1.fin, .bool r.1.forb, .bool r.1.gone, .bool r.1.app, .bool r.1.disc, .int .i64 r.1.skip, .int .i64 r.1.red] 64)).alloc (.cells #[.int .i64 r.2.1, .int .i64 0] 33)).cell? ⟨bx, 0, none⟩ = some (.int .i64 d.a) := xS.cell' (i := 0) rfl
              have sl := xS.lt
              have GS := Lib.hid (O.out.1.below hbS)
              clear fS xS hbS
              go_wp2_with (fail)
              obtain ⟨Z0, hZ0⟩ : ∃ Z, Z = ((W4.alloc (.cells #[Value.bool r.1.last, .bool r.1.next, .bool r.1.chain, .bool r.1.fin, .bool r.1.forb, .bool r.1.gone, .bool r.1.app, .bool r.1.disc, .int .i64 r.1.skip, .int .i64 r.1.red] 64)).alloc (.cells #[.int .i64 r.2.1, .int .i64 0] 33)) := ⟨_, rfl⟩
              rw [← hZ0] at s0 s1 s2 sl GS ⊢
              clear hZ0
              go_still_tail 10, (by kernel_rfl)
              go_wp2_with (fail)
              refine (X.out.2 _ (by exact GS.out.cur.blk.drewN _)).mono ?_
              rintro e W5 ⟨rfl, hb5, hg5⟩
              have Z := Lib.hid (And.intro hb5 hg5)
              clear hb5 hg5
              go_wp2_with (fail)
              go_ret2
              rw [X.out.1]
              exact ⟨⟨rfl, u + 1, Z.out.1⟩, only_trans (only_drewN GS.out.gr _) Z.out.2⟩
            | false =>
              have hres : R = (none, r.2.1, d.a + (r.2.2 : Int)) := by rw [X0.out, if_neg h0, hq]; rfl
              rw [hq] at y2
              have hf := fun W (h : Blk W g 92 (cs.setIfInBounds 3 (.int .i64 ((u + 1 : Nat) : Int)))) => fails_code g _ _ r.2.1 (d.a + (r.2.2 : Int)) W h O.out.1.cur.size (by rw [Array.getElem?_setIfInBounds_ne (by decide)]; exact HA.out.2.2.2.1)
              have X := Lib.hid (And.intro hres hf)
              clear hres hf
              go_wp2_with (fail)
              obtain ⟨Z0, hZ0⟩ : ∃ Z, Z = ((W4.alloc (.cells #[Value.bool r.1.last, .bool r.1.next, .bool r.1.chain, .bool r.1.fin, .bool r.1.forb, .bool r.1.gone, .bool r.1.app, .bool r.1.disc, .int .i64 r.1.skip, .int .i64 r.1.red] 64)).alloc (.cells #[.int .i64 r.2.1, .int .i64 (r.2.2 : Int)] 33)) := ⟨_, rfl⟩
              rw [← hZ0] at z0 z1 y0 yl zl OV ⊢
              clear hZ0
              go_still_tail 10, (by kernel_rfl)
              go_wp2_with (fail)
              refine (X.out.2 _ (by exact OV.out.1.cur.blk.drewN _)).mono ?_
              rintro e W5 ⟨rfl, hb5, hg5⟩
              have Z := Lib.hid (And.intro hb5 hg5)
              clear hb5 hg5
              go_wp2_with (fail)
              go_ret2
              rw [X.out.1]
              exact ⟨⟨rfl, u + 1, Z.out.1⟩, only_trans (only_drewN OV.out.1.gr _) Z.out.2⟩
      | false =>
        have hix := idx_code ruleL d.t _ (by decide) W3 (texts_blk O.out.1.names (n := 1) rfl)
        obtain ⟨i, hi⟩ : ∃ i, i = Lib.idxOfS ruleL d.t := ⟨_, rfl⟩
        rw [← hi] at hix
        have hRi : R = if i < 0 then (none, 11, d.a) else if i.toNat < nx ∨ had = true then (none, 8, d.a) else optsP ruleL true (ws.drop (u + 1)) (set.set i.toNat true) (i.toNat + 1) had f := by
          rw [F.out.2.1, optsP, if_neg (by rw [hbr]; exact fun e => by cases e.2), ← hi]
        have hil : ¬ i < 0 → i.toNat < 1 := by rw [hi]; exact idx_lt
        have HI := Lib.hid (And.intro hRi hil)
        clear hRi hil hi
        go_wp2_with (fail)
        refine hix.mono ?_
        rintro e W4 ⟨rfl, rfl⟩
        clear hix
        have hRi := HI.out.1
        have hil := HI.out.2
        by_cases hi0 : i < 0
        · have hres : R = (none, 11, d.a) := by rw [hRi, if_pos hi0]
          clear hRi hil
          have hf := fun W (h : Blk W g 92 (cs.setIfInBounds 3 (.int .i64 ((u + 1 : Nat) : Int)))) => fails_code g _ _ 11 d.a W h O.out.1.cur.size (by rw [Array.getElem?_setIfInBounds_ne (by decide)]; exact HA.out.2.2.2.1)
          have X := Lib.hid (And.intro hres hf)
          clear hres hf
          go_wp2_with (fail)
          go_still_tail 5, (by kernel_rfl)
          go_wp2_with (fail)
          refine (X.out.2 _ (by exact O.out.1.cur.blk.drewN _)).mono ?_
          rintro e W5 ⟨rfl, hb5, hg5⟩
          have Z := Lib.hid (And.intro hb5 hg5)
          clear hb5 hg5
          go_wp2_with (fail)
          go_ret2
          rw [X.out.1]
          exact ⟨⟨rfl, u + 1, Z.out.1⟩, only_trans (only_drewN O.out.1.gr _) Z.out.2⟩
        · have hi1 := hil (by omega)
          obtain ⟨k, rfl⟩ : ∃ k : Nat, i = (k : Int) := ⟨i.toNat, by omega⟩
          rw [if_neg hi0, Int.toNat_natCast] at hRi
          rw [Int.toNat_natCast] at hi1
          clear hil hi0
          by_cases hkn : k < nx
          · have hres : R = (none, 8, d.a) := by rw [hRi, if_pos (Or.inl hkn)]
            clear hRi
            have hki : (k : Int) < nx := by omega
            have hf := fun W (h : Blk W g 92 (cs.setIfInBounds 3 (.int .i64 ((u + 1 : Nat) : Int)))) => fails_code g _ _ 8 d.a W h O.out.1.cur.size (by rw [Array.getElem?_setIfInBounds_ne (by decide)]; exact HA.out.2.2.2.1)
            have X := Lib.hid (And.intro hres hf)
            clear hres hf
            go_wp2_with (fail)
            go_still_tail 5, (by kernel_rfl)
            go_wp2_with (fail)
            refine (X.out.2 _ (by exact O.out.1.cur.blk.drewN _)).mono ?_
            rintro e W5 ⟨rfl, hb5, hg5⟩
            have Z := Lib.hid (And.intro hb5 hg5)
            clear hb5 hg5
            go_wp2_with (fail)
            go_ret2
            rw [X.out.1]
            exact ⟨⟨rfl, u + 1, Z.out.1⟩, only_trans (only_drewN O.out.1.gr _) Z.out.2⟩
          · have hki : ¬ (k : Int) < nx := by omega
            cases had with
            | true =>
              have hres : R = (none, 8, d.a) := by rw [hRi, if_pos (Or.inr rfl)]
              clear hRi
              have hf := fun W (h : Blk W g 92 (cs.setIfInBounds 3 (.int .i64 ((u + 1 : Nat) : Int)))) => fails_code g _ _ 8 d.a W h O.out.1.cur.size (by rw [Array.getElem?_setIfInBounds_ne (by decide)]; exact HA.out.2.2.2.1)
              have X := Lib.hid (And.intro hres hf)
              clear hres hf
              go_wp2_with (fail)
              go_still_tail 5, (by kernel_rfl)
              go_wp2_with (fail)
              refine (X.out.2 _ (by exact O.out.1.cur.blk.drewN _)).mono ?_
              rintro e W5 ⟨rfl, hb5, hg5⟩
              have Z := Lib.hid (And.intro hb5 hg5)
              clear hb5 hg5
              go_wp2_with (fail)
              go_ret2
              rw [X.out.1]
              exact ⟨⟨rfl, u + 1, Z.out.1⟩, only_trans (only_drewN O.out.1.gr _) Z.out.2⟩
            | false =>
              have hres : R = optsP ruleL true (ws.drop (u + 1)) (set.set k true) (k + 1) false f := by rw [hRi, if_neg (by intro h; rcases h with h | h; exact hkn h; cases h)]
              clear hRi
              have X := Lib.hid hres
              have hk1i : (k : Int) < 1 := by omega
              obtain ⟨b0, hb0⟩ : ∃ b, set[k]? = some b := ⟨_, List.getElem?_eq_getElem (by have := F.out.2.2.1; omega)⟩
              have kb : W4.cell? ⟨w.heap.size, k, none⟩ = some (.bool b0) := O.out.1.bits.cell' (by unfold boolA; simp [hb0])
              have kf := O.out.1.bits.frozen k
              have kl := O.out.1.bits.lt
              clear hres hb0
              go_wp2_with (fail)
              go_roundg (nl - (u + 1))
              case measure => have := F.out.1; omega
              case rel => exact ⟨u + 1, set.set k true, k + 1, false, f, rfl, by omega, by omega, rfl, rfl, X.out, by rw [List.length_set]; exact F.out.2.2.1, by omega, O.out.1.bit hg k true⟩
    · have hue : u = nl := by omega
      rw [← hnl] at hleft
      have hgt : ¬ (0 : Int) < (nl : Int) - u := by omega
      have hRe : R = (some (set, f), 0, 0) := by rw [hRu, List.drop_eq_nil_of_le (by omega)]; rfl
      have F := Lib.hid (And.intro hRe (And.intro hsl (And.intro ho (And.intro hue hnl))))
      clear hm hRu hRe hsl ho hue hnl hlt
      go_wp2_with (fail)
      refine hleft.mono ?_
      rintro e W ⟨rfl, q, rfl⟩
      clear hleft
      go_wp2_with (fail)
      go_ret2
      have ho := F.out.2.2.1.below (below_drewN (Below.refl _ _) q)
      rw [F.out.1]
      refine ⟨⟨rfl, ?_, ho.bits, F.out.2.1, ho.flags⟩, ho.gr⟩
      have := ho.cur
      rw [F.out.2.2.2.1, F.out.2.2.2.2] at this
      exact this
end Go.Proofs.YthpcbaamkeiffaaGreatDoor
