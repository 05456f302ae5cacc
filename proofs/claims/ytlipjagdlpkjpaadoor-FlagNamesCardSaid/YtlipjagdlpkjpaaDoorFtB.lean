/-
  Which flag a letter names, walked; condition: a variable of the library is an int.
-/
import Derived.Test.YtlipjagdlpkjpaaDoorFtA
import Derived.Test.YtlipjagdlpkjpaaDoorFlgA
import Derived.Lib.IndexLaws
import Derived.Deep.RegionWith
namespace Go.Proofs.YtlipjagdlpkjpaaDoor
open Go.RowKit
set_option linter.unusedVariables false
set_option linter.unusedSimpArgs false

/-- The library's variable is an int. -/
def MaxOk (w : World) : Prop := ∃ m, w.cell? ⟨1, 0, none⟩ = some (.int .i64 m)
theorem MaxOk.below {w w' : World} {B : Nat} (h : MaxOk w) (hb : Below B w w') (hB : w.heap.size ≤ B) : MaxOk w' := by
  obtain ⟨m, hm⟩ := h
  have hlt : 1 < w.heap.size := by
    rcases Nat.lt_or_ge 1 w.heap.size with h' | h'
    · exact h'
    · rw [World.cell?, Array.getElem?_eq_none h'] at hm
      simp at hm
  exact ⟨m, by rw [hb.cell (p := ⟨1, 0, none⟩) (by show 1 < B; omega)]; exact hm⟩
def lets : List UInt8 := [76, 78, 67, 69, 70, 71, 65, 68]
theorem let_fin : ∀ c : Fin 256, Lib.indexByte lets (UInt8.ofNat c.val) = (if firstN (fun k => decide (let8 k = c.val)) 8 < 8 then ((firstN (fun k => decide (let8 k = c.val)) 8 : Nat) : Int) else -1) := by decide +kernel
theorem let_idx {p : ByteArray} (h : p.size = 1) : Lib.index lets p.data.toList = (if letK p < 8 then ((letK p : Nat) : Int) else -1) := by
  have hl : p.data.toList.length = 1 := by rw [size_data]; exact h
  obtain ⟨c, hc⟩ := List.length_eq_one_iff.1 hl
  have hb : byS p 0 = c.toNat := by unfold byS; rw [hc]; rfl
  have := let_fin ⟨c.toNat, c.toNat_lt⟩
  simp only [UInt8.ofNat_toNat] at this
  rw [hc, Lib.index_one, this]
  unfold letK
  rw [if_pos h, hb]
/-- A builder's cells. -/
def putC (s : Put) : Array Value := #[.bool s.f.last, .bool s.f.next, .bool s.f.chain, .bool s.f.fin, .bool s.f.forb, .bool s.f.gone, .bool s.f.app, .bool s.f.disc, .int .i64 s.f.skip, .int .i64 s.f.red, .bool s.sk, .bool s.rd]
def ptrs (b : Nat) : Array Value := #[.pointer (some ⟨b, 0, none⟩), .pointer (some ⟨b, 1, none⟩), .pointer (some ⟨b, 2, none⟩), .pointer (some ⟨b, 3, none⟩), .pointer (some ⟨b, 4, none⟩), .pointer (some ⟨b, 5, none⟩), .pointer (some ⟨b, 6, none⟩), .pointer (some ⟨b, 7, none⟩)]

/-- Where the flag that a part names lies. -/
def flagAt (b : Nat) (p : ByteArray) : Value := .pointer (if letK p < 8 then some ⟨b, letK p, none⟩ else none)
theorem flagAt_yes {b : Nat} {p : ByteArray} (h : letK p < 8) : flagAt b p = .pointer (some ⟨b, letK p, none⟩) := by unfold flagAt; rw [if_pos h]
theorem flagAt_no {b : Nat} {p : ByteArray} (h : ¬ letK p < 8) : flagAt b p = .pointer none := by unfold flagAt; rw [if_neg h]

set_option maxRecDepth 100000 in
set_option maxHeartbeats 4000000 in
theorem fflag (b : Nat) (s : Put) (p : ByteArray) (hp : p.size ≤ 1000000) (w : World) (hm : MaxOk w) (hb : Blk w b 51 (putC s)) :
    Calls Tryd.prog 44 #[.pointer (some ⟨b, 0, none⟩), .string p] w fun e W' => e = .returned (flagAt b p) ∧ Below w.heap.size w W' := by
  have hl := hb.lt
  have h0 := hb.cell' (i := 0) rfl
  have z0 := gr_alloc (Below.refl w.heap.size w) (.cells (ptrs b) 93)
  have b0 := Blk.new w 93 (ptrs b)
  have hmm := hm.below z0 (Nat.le_refl _)
  have HZ := Lib.hid (And.intro b0 z0)
  clear hm z0 b0 hb
  obtain ⟨m, hmm⟩ := hmm
  have HM := Lib.hid hmm
  clear hmm
  go_enter Tryd.func44, Tryd.ntmps44
  go_wp2_with (fail)
  go_region
  go_wp2_with (fail)
  refine (Tryd.strings_Index ⟨#[76, 78, 67, 69, 70, 71, 65, 68]⟩ p m _ (by decide) (by exact HM.out)).mono ?_
  rintro e W1 ⟨rfl, rfl⟩
  by_cases h1 : p.size = 1
  · have hi := let_idx h1
    have h1' : (p.size : Int) = 1 := by omega
    by_cases hk : letK p < 8
    · rw [if_pos hk] at hi
      have HF := Lib.hid (flagAt_yes (b := b) hk)
      obtain ⟨k, hke⟩ : ∃ k, k = letK p := ⟨_, rfl⟩
      rw [← hke] at hi hk HF
      rw [show Lib.index (⟨#[76, 78, 67, 69, 70, 71, 65, 68]⟩ : ByteArray).data.toList p.data.toList = (k : Int) from hi]
      have hc : (w.alloc (.cells (ptrs b) 93)).cell? ⟨w.heap.size, k, none⟩ = some (.pointer (some ⟨b, k, none⟩)) := by
        refine HZ.out.1.cell' ?_
        have : k = 0 ∨ k = 1 ∨ k = 2 ∨ k = 3 ∨ k = 4 ∨ k = 5 ∨ k = 6 ∨ k = 7 := by omega
        rcases this with e | e | e | e | e | e | e | e <;> rw [e] <;> rfl
      have hsz := HZ.out.1.lt
      unfold ptrs at hc hsz
      clear hi hke
      go_wp2_with (fail)
      go_ret
      exact ⟨by rw [HF.out] <;> rfl, gr_drew HZ.out.2⟩
    · rw [if_neg hk] at hi
      have HF := Lib.hid (flagAt_no (b := b) hk)
      rw [show Lib.index (⟨#[76, 78, 67, 69, 70, 71, 65, 68]⟩ : ByteArray).data.toList p.data.toList = -1 from hi]
      clear hi
      go_wp2_with (fail)
      go_ret
      exact ⟨by rw [HF.out] <;> rfl, gr_drew HZ.out.2⟩
  · have hk : ¬ letK p < 8 := by unfold letK; rw [if_neg h1]; omega
    have hq : ((p.size : Int) == 1) = false := by simp; omega
    have HF := Lib.hid (flagAt_no (b := b) hk)
    generalize Lib.index (⟨#[76, 78, 67, 69, 70, 71, 65, 68]⟩ : ByteArray).data.toList p.data.toList = ix
    go_wp2_with (fail)
    go_ret
    exact ⟨by rw [HF.out] <;> rfl, gr_drew HZ.out.2⟩
end Go.Proofs.YtlipjagdlpkjpaaDoor
