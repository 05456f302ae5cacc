/-
  strconv.ParseUint of two bytes in base 16, walked: their number, or an error; condition: the variable ErrSyntax holds an interface value.
-/
import Derived.Test.YtpicenopiigfpaaDoorRwD
namespace Go.Proofs.YtpicenopiigfpaaDoor
open Go.RowKit Go.Shelf
set_option linter.unusedVariables false
set_option linter.unusedSimpArgs false

/-- A package's variable that holds an error, or none. -/
def ErrV (w : World) (g : Nat) : Prop := ∃ ev, w.cell? ⟨g, 0, none⟩ = some ev ∧ (ev = .nilIface ∨ ∃ te pe, ev = .iface te pe)
theorem ErrV.lt {w : World} {g : Nat} (h : ErrV w g) : g < w.heap.size := by
  obtain ⟨ev, h1, _⟩ := h
  refine Nat.lt_of_not_le fun hge => ?_
  have : w.heap[g]? = none := Array.getElem?_eq_none hge
  unfold World.cell? at h1
  rw [this] at h1
  cases h1
theorem ErrV.at_ {w w' : World} {g : Nat} (h : ErrV w g) (hb : w'.heap[g]? = w.heap[g]?) : ErrV w' g := by
  obtain ⟨ev, h1, h2⟩ := h
  exact ⟨ev, (World.cell?_of_block (w := w) (w' := w') (a := ⟨g, 0, none⟩) hb).trans h1, h2⟩
theorem ErrV.below {w w' : World} {g B : Nat} (h : ErrV w g) (hb : Below B w w') (hB : g < B) : ErrV w' g := h.at_ (hb.block g hB)
theorem ErrV.belowX {w w' : World} {g B b : Nat} (h : ErrV w g) (hb : BelowX B b w w') (hB : g < B) (hg : g ≠ b) : ErrV w' g := h.at_ (hb.block g hB hg)
theorem ErrV.grown {w w' : World} {g : Nat} {row : Option Nat} (h : ErrV w g) (hb : w.grownBy w' row) (hg : some g ≠ row) : ErrV w' g := h.at_ (hb.block g h.lt hg)

/-- What ParseUint hands back: the number, or some error. -/
def PuR (r : Option Nat) (e : Ending) : Prop := match r with
  | some n => e = .returned (.tuple #[.int .u64 (n : Int), .nilIface])
  | none => ∃ N, e = .returned (.tuple #[.int .u64 0, .iface 102 (.pointer (some ⟨N, 0, none⟩))])
set_option maxRecDepth 100000 in
set_option maxHeartbeats 2000000 in
theorem pu (t : ByteArray) (h2 : t.size = 2) (w : World) (hv : ErrV w 0) :
    Calls Tryd.prog 59 #[.string t, .int .i64 16, .int .i64 8] w fun e w' => PuR (hx16 0 t.data.toList) e ∧ Below w.heap.size w w' := by
  have hp := pu16 t h2 w
  obtain ⟨W1, hW1⟩ : ∃ W1, W1 = Lib.bytesWorld w 5 t := ⟨_, rfl⟩
  have hb1 : Below w.heap.size w W1 := by rw [hW1]; exact Lib.bytesWorld_below w _ t
  rw [← hW1] at hp
  have hv1 := hv.below hb1 hv.lt
  clear hW1
  cases hr : hx16 0 t.data.toList with
  | some n =>
    rw [hr] at hp
    clear hr hv hv1
    go_enter Tryd.func59, Tryd.ntmps59
    go_wp2_with (fail)
    refine hp.mono ?_
    rintro e w' ⟨rfl, rfl⟩
    unfold puV
    go_wp2_with (fail)
    go_ret2
    exact ⟨rfl, hb1⟩
  | none =>
    rw [hr] at hp
    obtain ⟨ev, c0, hev⟩ := hv1
    have ht := Tryd.strconv_toError_syntax ⟨#[80, 97, 114, 115, 101, 85, 105, 110, 116]⟩ t 16 8 ev W1 (by omega) c0 hev
    clear hr hv hev c0
    go_enter Tryd.func59, Tryd.ntmps59
    go_wp2_with (fail)
    refine hp.mono ?_
    rintro e w' ⟨rfl, rfl⟩
    unfold puV
    go_wp2_with (fail)
    refine ht.mono ?_
    rintro e w2 ⟨N, rfl, _, _, hb2⟩
    go_wp2_with (fail)
    go_ret2
    exact ⟨⟨N, rfl⟩, hb1.trans (hb2.mono hb1.size)⟩
end Go.Proofs.YtpicenopiigfpaaDoor
