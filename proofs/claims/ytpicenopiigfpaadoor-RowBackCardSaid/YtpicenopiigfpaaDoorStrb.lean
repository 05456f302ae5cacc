/-
  (*strings.Builder).copyCheck, WriteByte and WriteString at this program, whose Builder cannot have been copied (the branch that panics is none here); condition: the new length takes at most 2^47 bytes.
-/
import Derived.Test.YtpicenopiigfpaaDoorProg
import Derived.Test.YtpicenopiigfpaaDoorBase
import Derived.Test.YtpicenopiigfpaaDoorInfo
import Derived.WalkSpells
import Derived.WalkLawsBesides
import Derived.Lib.Builder
namespace Go.Proofs.YtpicenopiigfpaaDoor
open Go.RowKit

theorem sizeBuilder : (Tryd.prog.info? 72).map (fun i => i.size) = some 2 := by kernel_rfl
theorem liesBuilder : liesAt Tryd.prog Tryd.prog.depth 72 (2 / Tryd.prog.cellsOf 72) 0 72 1 = true := by kernel_rfl

set_option maxHeartbeats 1000000 in
set_option maxRecDepth 100000 in
theorem Builder_copyCheck_used (b : Nat) (w : World) (h0 : w.cell? ⟨b, 0, none⟩ = some (.pointer (some ⟨b, 0, none⟩))) :
    Calls Tryd.prog 53 #[.pointer (some ⟨b, 0, none⟩)] w fun e w' => e = .returned (.tuple #[]) ∧ w' = w := by
  obtain ⟨j, hj, _⟩ := Option.map_eq_some_iff.1 sizeBuilder
  go_enter Tryd.func53, Tryd.ntmps53
  go_wp2
  rw [Lib.run_neq_ptr_same w _ Tryd.underlying70 hj]
  go_wp2
  go_end0
  exact ⟨rfl, rfl⟩

set_option maxHeartbeats 1000000 in
set_option maxRecDepth 100000 in
theorem Builder_copyCheck_fresh (b : Nat) (w : World) (h0 : w.cell? ⟨b, 0, none⟩ = some (.pointer none)) (hsh : w.shape? b = some (72, 2)) (hfz : w.frozen? ⟨b, 0, none⟩ = false) :
    Calls Tryd.prog 53 #[.pointer (some ⟨b, 0, none⟩)] w fun e w' => e = .returned (.tuple #[]) ∧ w' = w.setCell ⟨b, 0, none⟩ (.pointer (some ⟨b, 0, none⟩)) := by
  obtain ⟨j, hj, hjs⟩ := Option.map_eq_some_iff.1 sizeBuilder
  go_enter Tryd.func53, Tryd.ntmps53
  go_wp2
  rw [Lib.run_to_unsafe w ⟨b, 0, none⟩ Tryd.underlying70 Tryd.underlying97 hj (by rw [hjs]; decide) hsh (Nat.zero_lt_succ 1)]
  simp only [Result.andThen]
  rw [Oper.upon_value]
  go_wp2
  rw [run_callFunc_extern Tryd.func61 (by kernel_rfl) (by kernel_rfl) (by kernel_rfl) (e := Extern.AbiNoEscape.same) (by kernel_rfl)]
  rw [Lib.run_noEscape]
  simp only [Result.andThen]
  rw [Oper.upon_value]
  go_wp2
  rw [Lib.run_from_unsafe w ⟨b, 0, none⟩ Tryd.underlying97 Tryd.underlying70 hj hsh liesBuilder]
  simp only [Result.andThen]
  rw [Oper.upon_value]
  go_wp2
  go_end0
  exact ⟨rfl, rfl⟩

/-- A builder in block b, whose bytes are bs; its row lies from B on. -/
def Bld (B b : Nat) (bs : List Value) (w : World) : Prop :=
  ∃ p v, (p = .pointer none ∨ p = .pointer (some ⟨b, 0, none⟩)) ∧ Blk w b 72 #[p, v] ∧ w.ownsRow B 5 1 v bs.length bs

theorem Bld.isBuilder {B b B' : Nat} {bs : List Value} {w : World} (h : Bld B b bs w) (h1 : B' ≤ B) (h2 : B' ≤ b) : Lib.IsBuilder 72 5 B' b bs w := by
  obtain ⟨p, v, hp, hb, hown⟩ := h
  have hne : v.ownBlock ≠ some b := fun e => own_blk_ne hown hb (by decide) e.symm
  rcases hp with rfl | rfl
  · exact .inl ⟨h2, v, hb, own_weaken hown h1, hne⟩
  · exact .inr ⟨h2, v, hb, own_weaken hown h1, hne⟩
theorem Bld.fresh {B b : Nat} {w : World} (h : Blk w b 72 #[.pointer none, .slice none 0 0]) : Bld B b [] w :=
  ⟨_, _, .inl rfl, h, World.ownsRow_nil _ _ _ _⟩
theorem Bld.lt {B b : Nat} {bs : List Value} {w : World} (h : Bld B b bs w) : b < w.heap.size := by
  obtain ⟨p, v, hp, hb, hown⟩ := h
  exact hb.lt
theorem Bld.drewN {B b : Nat} {bs : List Value} {w : World} (h : Bld B b bs w) (n : Nat) : Bld B b bs (w.drewN n) := h
theorem Bld.alloc {B b : Nat} {bs : List Value} {w : World} (h : Bld B b bs w) (o : Obj) : Bld B b bs (w.alloc o) := by
  obtain ⟨p, v, hp, hb, hown⟩ := h
  exact ⟨p, v, hp, hb.alloc o, hown.alloc o⟩
theorem Bld.below {B b : Nat} {bs : List Value} {w w' : World} (h : Bld B b bs w) (hb : Below w.heap.size w w') : Bld B b bs w' := by
  obtain ⟨p, v, hp, hbk, hown⟩ := h
  exact ⟨p, v, hp, hbk.below hb hbk.lt, own_below hown hb (Nat.le_refl _)⟩

/-- Behind copyCheck the builder holds its own address; its bytes are as they were. -/
theorem Bld_copyCheck (B b : Nat) (bs : List Value) (w : World) (h : Bld B b bs w) :
    Calls Tryd.prog 53 #[.pointer (some ⟨b, 0, none⟩)] w fun e w' => e = .returned (.tuple #[]) ∧ (∃ v, Blk w' b 72 #[.pointer (some ⟨b, 0, none⟩), v] ∧ w'.ownsRow B 5 1 v bs.length bs) ∧ BelowX B b w w' ∧ Others 5 b w w' := by
  obtain ⟨p, v, hp, hb, hown⟩ := h
  rcases hp with rfl | rfl
  · refine (Builder_copyCheck_fresh b w (hb.cell' rfl) (by unfold Blk at hb; simp [World.shape?, hb]) (hb.frozen 0)).mono ?_
    rintro e w' ⟨rfl, rfl⟩
    exact ⟨rfl, ⟨v, hb.set_ 0 _, own_setCell hown hb (by decide) _⟩, (BelowX.refl _ b _).setCell (p := ⟨b, 0, none⟩) (.inl rfl) _, (Others.refl _ b _).setCell (p := ⟨b, 0, none⟩) rfl _⟩
  · refine (Builder_copyCheck_used b w (hb.cell' rfl)).mono ?_
    rintro e w' ⟨rfl, rfl⟩
    exact ⟨rfl, ⟨v, hb, hown⟩, BelowX.refl _ _ _, Others.refl _ _ _⟩

set_option maxHeartbeats 2000000 in
set_option maxRecDepth 100000 in
theorem Bld_WriteByte (B b : Nat) (bs : List Value) (c : Int) (w : World) (h : Bld B b bs w) (hlen : bs.length + 1 ≤ 140737488355328) (hBw : B ≤ w.heap.size) :
    Calls Tryd.prog 37 #[.pointer (some ⟨b, 0, none⟩), .int .u8 c] w fun e w' => e = .returned .nilIface ∧ Bld B b (bs ++ [.int .u8 c]) w' ∧ BelowX B b w w' ∧ Others 5 b w w' := by
  obtain ⟨i0, hi, hz0, hz1, hz2⟩ := info_parts infoByte
  go_enter Tryd.func37, Tryd.ntmps37
  go_wp2_with (go_at_call 53; refine (Bld_copyCheck B b bs _ h).mono ?_)
  rintro e w1 ⟨rfl, ⟨v, hbk, hown⟩, hx1, ho1⟩
  obtain ⟨va, vc, rfl⟩ := own_slice hown
  have c0 := hbk.cell' (i := 0) (v := .pointer (some ⟨b, 0, none⟩)) rfl
  have c1 := hbk.cell' (i := 1) (v := .slice va bs.length vc) rfl
  have hsz := hx1.size
  go_wp2_with (at_builtin; refine wpList_append_own _ rfl _ _ 65 rfl B 5 i0 (.int .u8 0) 1 1 Tryd.underlying65 hi hz0 hz1 hz2 rfl (by decide) _ _ _ rfl (hown.alloc _) ⟨w1.heap.size, 0, none⟩ 1 1 [.int .u8 c] rfl rfl ?c1 ?c2 ?c3 ?c4 ?c5 ?_)
  case c1 => exact one_new rfl _ _
  case c2 => exact one_int _ _
  case c3 => unfold maxLen; omega
  case c4 => omega
  case c5 => simp; omega
  intro v' w2 hown' hgrow _
  have ha := hbk.alloc (.cells #[.int .u8 c] 5)
  have hb2 := ha.grown hgrow (own_blk_ne (hown.alloc _) ha (by decide))
  have d0 := hb2.cell' (i := 0) (v := .pointer (some ⟨b, 0, none⟩)) rfl
  have d1 := hb2.cell' (i := 1) (v := .slice va bs.length vc) rfl
  have f1 := hb2.frozen 1
  obtain ⟨vb, vd, rfl⟩ := own_slice hown'
  have hX := (hx1.alloc (by omega) (.cells #[.int .u8 c] 5)).grown hgrow (by simp; omega) (fun k hk => (hown.lt k hk).1)
  have hO := (ho1.alloc (.cells #[.int .u8 c] 5)).grown (hown.alloc _) hgrow
  go_wp2
  go_ret
  refine ⟨rfl, ⟨_, _, .inr rfl, hb2.set_ 1 _, ?_⟩, hX.setCell (.inl rfl) _, hO.setCell rfl _⟩
  rw [List.length_append]
  exact own_setCell hown' hb2 (by decide) _
end Go.Proofs.YtpicenopiigfpaaDoor
