/-
  What scc.made's loop keeps, behind an append and behind slices.Delete; no condition.
-/
import Derived.Test.YtjgkiiohbceocaaScNb
import Derived.Test.YtjgkiiohbceocaaShelf
namespace Go.Proofs.Ytjgkiiohbceocaa
open Go.RowKit
set_option linter.unusedVariables false
set_option linter.unusedSimpArgs false

/-! Blocks behind slices.Delete. -/
section
variable {α : Type} [Inhabited α] {enc : α → Value}
theorem Blk.putRow {w : World} {g : Nat} {t : TypeId} {cs : Array Value} (h : Blk w g t cs) (q off : Nat) (d : Array α) : Blk (Sort.putRow enc (Sort.ahead w q) g off d) g t (Sort.putCells enc off d cs) := by
  unfold Blk at h ⊢
  show ((w.heap.modify g (Sort.onCells (Sort.putCells enc off d)))[g]?) = _
  rw [Array.getElem?_modify, if_pos rfl, h]
  rfl
theorem Blk.putFar {w : World} {k g : Nat} {t : TypeId} {cs : Array Value} (h : Blk w k t cs) (hne : k ≠ g) (q off : Nat) (d : Array α) : Blk (Sort.putRow enc (Sort.ahead w q) g off d) k t cs := by
  unfold Blk at h ⊢
  show ((w.heap.modify g (Sort.onCells (Sort.putCells enc off d)))[k]?) = _
  rw [Array.getElem?_modify, if_neg (fun e => hne e.symm)]
  exact h
theorem gr_putRow {w W : World} {g : Nat} (h : Below w.heap.size w W) (hg : w.heap.size ≤ g) (q off : Nat) (d : Array α) : Below w.heap.size w (Sort.putRow enc (Sort.ahead W q) g off d) :=
  ⟨h.os, h.tape, h.output, by rw [Sort.size_putRow]; exact h.size, fun k hk => by
    show ((W.heap.modify g (Sort.onCells (Sort.putCells enc off d)))[k]?) = _
    rw [Array.getElem?_modify, if_neg (by omega)]
    exact h.block k hk⟩
theorem putCells_at {d : Array α} {cs : Array Value} {i : Nat} (hi : i < cs.size) (hd : i < d.size) : (Sort.putCells enc 0 d cs)[i]? = some (enc d[i]!) := by
  unfold Sort.putCells
  rw [Array.getElem?_mapIdx, Array.getElem?_eq_getElem hi]
  simp [hd]
theorem putCells_size (d : Array α) (cs : Array Value) : (Sort.putCells enc 0 d cs).size = cs.size := by
  unfold Sort.putCells
  simp
end
/-- A list's value by its root; nothing for what was deleted. -/
def encV (V : Nat → Value) : Option Nat → Value
  | none => .slice none 0 0
  | some r => V r

/-- The memory part of what made's loop keeps. -/
structure LpM (W : World) (B n : Nat) (E : Nat → Nat → Bool) (bL bv bg bl bp : Nat) (V : Nat → Value) (f : Nat → Nat) (left ps : List Nat) (lv vp : Value) : Prop where
  gr : Blk W bg 69 #[.pointer (some ⟨bl, 0, none⟩), .int .i64 (n : Int), vp, .slice (some ⟨bp, 0, none⟩) n n]
  ln : Blk W bl 79 (lnkC E (rea n E))
  pt : Blk W bp 3 (numC n f)
  var : Blk W bv 64 #[.pointer (some ⟨bg, 0, none⟩)]
  lvr : Blk W bL 41 #[lv]
  lrow : W.ownsRow B 25 1 lv left.length (left.map V)
  prow : W.ownsRow B 25 1 vp ps.length (ps.map V)
  ne : ∀ g, lv.ownBlock = some g → vp.ownBlock ≠ some g
  inn : ∀ r, r ∈ roots n (rea n E) → OwnN W B (V r) (mem_ n (rea n E) r)
  lt : bp < B
section
variable {W W' : World} {B n : Nat} {E : Nat → Nat → Bool} {bL bv bg bl bp : Nat} {V : Nat → Value} {f : Nat → Nat} {left ps : List Nat} {lv vp : Value}
theorem LpOk.mem (h : LpOk W B n E bL bv bg bl bp V f left ps lv vp) : LpM W B n E bL bv bg bl bp V f left ps lv vp :=
  ⟨h.gr, h.ln, h.pt, h.var, h.lvr, h.lrow, h.prow, h.ne, h.inn, h.lt⟩
theorem LpM.ok (h : LpM W B n E bL bv bg bl bp V f left ps lv vp) (lo : LeftOk n (rea n E) left) (eq : partsR n (rea n E) = ps ++ ordR (rea n E) left.length left) : LpOk W B n E bL bv bg bl bp V f left ps lv vp :=
  ⟨lo, eq, h.gr, h.ln, h.pt, h.var, h.lvr, h.lrow, h.prow, h.ne, h.inn, h.lt⟩
/-- Behind the append of a component to those that are found, and its store. -/
theorem LpOk.push (h : LpOk W B n E bL bv bg bl bp V f left ps lv vp) {o : Obj} {w1 : World} {r gg cap : Nat} (hlt : ∀ g, lv.ownBlock = some g → g < W.heap.size)
    (hgrow : (W.alloc o).drew.grownBy w1 vp.ownBlock) (hown : w1.ownsRow B 25 1 (.slice (some ⟨gg, 0, none⟩) (ps.length + 1) cap) (ps.length + 1) (ps.map V ++ [V r])) (hat : vp.ownBlock = some gg ∨ gg = W.heap.size + 1 ∨ gg = W.heap.size) :
    LpM (w1.setCell ⟨bg, 2, none⟩ (.slice (some ⟨gg, 0, none⟩) (ps.length + 1) cap)) B n E bL bv bg bl bp V f left (ps ++ [r]) lv (.slice (some ⟨gg, 0, none⟩) (ps.length + 1) cap) := by
  have hp0 : (W.alloc o).drew.ownsRow B 25 1 vp ps.length (ps.map V) := own_below h.prow (gr_drew (gr_alloc (Below.refl _ _) o)) (Nat.le_refl _)
  have keep : ∀ k t cs, Blk W k t cs → t ≠ 25 → Blk w1 k t cs := fun k t cs hb ht =>
    (show Blk (W.alloc o).drew k t cs from hb.alloc o).grown hgrow (own_blk_ne hp0 (show Blk (W.alloc o).drew k t cs from hb.alloc o) (fun e => ht e.symm))
  have hg1 := keep _ _ _ h.gr (by decide)
  have hne : ∀ g, lv.ownBlock = some g → gg ≠ g := by
    intro g hg e
    subst e
    rcases hat with h1 | h1 | h1
    · exact h.ne gg hg h1
    · have := hlt gg hg; omega
    · have := hlt gg hg; omega
  refine ⟨?_, (keep _ _ _ h.ln (by decide)).far ((keep _ _ _ h.ln (by decide)).ne_ hg1 (by decide)) _, (keep _ _ _ h.pt (by decide)).far ((keep _ _ _ h.pt (by decide)).ne_ hg1 (by decide)) _,
    (keep _ _ _ h.var (by decide)).far ((keep _ _ _ h.var (by decide)).ne_ hg1 (by decide)) _, (keep _ _ _ h.lvr (by decide)).far ((keep _ _ _ h.lvr (by decide)).ne_ hg1 (by decide)) _, ?_, ?_, ?_, ?_, h.lt⟩
  · have := hg1.set_ 2 (.slice (some ⟨gg, 0, none⟩) (ps.length + 1) cap)
    exact this
  · refine ⟨h.lrow.1, ?_⟩
    rcases h.lrow.2 with h2 | ⟨g, c, cur, hv, hB, hh, hr⟩
    · exact .inl h2
    · refine .inr ⟨g, c, cur, hv, hB, ?_, hr⟩
      have hb1 : Blk (W.alloc o).drew g 25 cur := (show Blk W g 25 cur from hh).alloc o
      have hb2 : Blk w1 g 25 cur := hb1.grown hgrow (fun e => h.ne g (by rw [hv]; rfl) e.symm)
      exact hb2.far (hb2.ne_ hg1 (by decide)) _
  · rw [List.length_append, List.map_append]
    exact own_setCell hown hg1 (by decide) _
  · intro g hg e
    simp only [Value.ownBlock, Option.some.injEq] at e
    exact hne g hg e
  · intro s hs
    exact own_blks (h.inn s hs) (fun k cs _ hb => (keep k _ cs hb (by decide)).far ((keep k _ cs hb (by decide)).ne_ hg1 (by decide)) _)
theorem LpM.congr {f' : Nat → Nat} (h : LpM W B n E bL bv bg bl bp V f left ps lv vp) (hf : numC n f = numC n f') : LpM W B n E bL bv bg bl bp V f' left ps lv vp :=
  ⟨h.gr, h.ln, by rw [← hf]; exact h.pt, h.var, h.lvr, h.lrow, h.prow, h.ne, h.inn, h.lt⟩
/-- Behind slices.Delete of one that was left, and its store. -/
theorem LpM.del {gl cap k r : Nat} {cur : Array Value} (h : LpM W B n E bL bv bg bl bp V f left ps (.slice (some ⟨gl, 0, none⟩) left.length cap) vp) (hn : left.Nodup) (hr : left[k]? = some r) (hgl : Blk W gl 25 cur) (hB : B ≤ gl) (hcap : left.length ≤ cap) (hmx : cap ≤ maxLen) (hcs : cur.size = cap) (q : Nat) :
    LpM ((Sort.putRow (encV V) (Sort.ahead W q) gl 0 ((left.map some).take k ++ (left.map some).drop (k + 1) ++ List.replicate 1 none).toArray).setCell ⟨bL, 0, none⟩ (.slice (some ⟨gl, 0, none⟩) (left.length - 1) cap)) B n E bL bv bg bl bp V f (left.erase r) ps (.slice (some ⟨gl, 0, none⟩) (left.length - 1) cap) vp := by
  have hk := (List.getElem?_eq_some_iff.1 hr).1
  have hers := erase_at hn hr
  have hlen : (left.erase r).length = left.length - 1 := List.length_erase_of_mem (List.mem_of_getElem? hr)
  have hd : (left.map some).take k ++ (left.map some).drop (k + 1) ++ List.replicate 1 none = (left.erase r).map some ++ [none] := by
    rw [hers, List.map_append, List.map_take, List.map_drop]; rfl
  rw [hd]
  have far : ∀ i t cs, Blk W i t cs → i ≠ gl → i ≠ bL → Blk ((Sort.putRow (encV V) (Sort.ahead W q) gl 0 ((left.erase r).map some ++ [none]).toArray).setCell ⟨bL, 0, none⟩ (.slice (some ⟨gl, 0, none⟩) (left.length - 1) cap)) i t cs :=
    fun i t cs hb h1 h2 => (hb.putFar h1 q 0 _).far h2 _
  have hbL : bL ≠ gl := h.lvr.ne_ hgl (by decide)
  refine ⟨far _ _ _ h.gr (h.gr.ne_ hgl (by decide)) (h.gr.ne_ h.lvr (by decide)), far _ _ _ h.ln (h.ln.ne_ hgl (by decide)) (h.ln.ne_ h.lvr (by decide)), far _ _ _ h.pt (h.pt.ne_ hgl (by decide)) (h.pt.ne_ h.lvr (by decide)),
    far _ _ _ h.var (h.var.ne_ hgl (by decide)) (h.var.ne_ h.lvr (by decide)), (h.lvr.putFar hbL q 0 _).set_ 0 _, ?_, ?_, fun g hg => h.ne g hg, ?_, h.lt⟩
  · rw [hlen]
    refine ⟨by rw [List.length_map, hlen]; omega, .inr ⟨gl, cap, Sort.putCells (encV V) 0 ((left.erase r).map some ++ [none]).toArray cur, rfl, hB, ?_, by omega, hmx, by rw [putCells_size, hcs]; omega, ?_⟩⟩
    · exact (hgl.putRow q 0 _).far (fun e => hbL e.symm) _
    · apply List.ext_getElem?
      intro i
      rw [List.getElem?_take]
      by_cases hi : i < left.length - 1
      · rw [if_pos (by omega), Array.getElem?_toList, putCells_at (by omega) (by simp; omega), List.getElem?_map]
        have hi' : i < (left.erase r).length := by omega
        rw [List.getElem?_eq_getElem hi']
        have e : (((left.erase r).map some ++ [none]).toArray)[i]! = some (left.erase r)[i] := by
          rw [getElem!_pos _ i (by simp; omega), List.getElem_toArray, List.getElem_append_left (by simpa using hi'), List.getElem_map]
        rw [e]; rfl
      · rw [if_neg (by omega), List.getElem?_eq_none (by rw [List.length_map, hlen]; omega)]
  · refine ⟨h.prow.1, ?_⟩
    rcases h.prow.2 with h2 | ⟨g, c, cur', hv, hB', hh, hr'⟩
    · exact .inl h2
    · have hb : Blk W g 25 cur' := hh
      exact .inr ⟨g, c, cur', hv, hB', far _ _ _ hb (fun e => by subst e; exact h.ne g rfl (by rw [hv]; rfl)) (hb.ne_ h.lvr (by decide)), hr'⟩
  · intro s hs
    exact own_blks (h.inn s hs) (fun i cs hi hb => far _ _ _ hb (hb.ne_ hgl (by decide)) (hb.ne_ h.lvr (by decide)))
end
end Go.Proofs.Ytjgkiiohbceocaa
