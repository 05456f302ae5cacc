/-
  Which flag a letter names, walked; condition: a variable of the library is an int.
  How a part is cut at its sign of equality: plain; no condition.
  A part more for a builder, walked; condition: a variable of the library is an int.
  flag.ways and Check, walked: the plain functions; condition: the two tables lie as they are laid.
  flag.Check and its reference, walked: the plain function; condition: the two tables lie as they are laid.
  The error behind all parts, walked; condition: the two tables lie as they are laid.
-/
import Derived.Lib.IndexLaws
import Derived.Deep.RegionWith
import Derived.Lib.IndexMore
import Derived.Deep.QuietTactic
import Derived.Defers
import Derived.Test.YthpcbaamkeiffaaGreatDoorMFlgA
namespace Go.Proofs.YthpcbaamkeiffaaGreatDoor
open Go.RowKit
set_option linter.unusedVariables false
set_option linter.unusedSimpArgs false

/-- The library's variable is an int. -/
def MaxOk (w : World) : Prop := ∃ m, w.cell? ⟨1, 0, none⟩ = some (.int .i64 m)
theorem MaxOk.below {w w' : World} {B : Nat} (h : MaxOk w) (hb : Below B w w') (hB : w.heap.size ≤ B) : MaxOk w' := by
  obtain ⟨m, hm⟩ := h
  have hlt : 1 < w.heap.size := by
    rcases Nat.lt_or_ge 1 w.heap.size with h' | h'
    · exact h'
    · rw [World.cell?, Array.getElem?_eq_none h'] at hm
      simp at hm
  exact ⟨m, by rw [hb.cell (p := ⟨1, 0, none⟩) (by show 1 < B; omega)]; exact hm⟩
def lets : List UInt8 := [76, 78, 67, 69, 70, 71, 65, 68]
theorem let_fin : ∀ c : Fin 256, Lib.indexByte lets (UInt8.ofNat c.val) = (if firstN (fun k => decide (let8 k = c.val)) 8 < 8 then ((firstN (fun k => decide (let8 k = c.val)) 8 : Nat) : Int) else -1) := by decide +kernel
theorem let_idx {p : ByteArray} (h : p.size = 1) : Lib.index lets p.data.toList = (if letK p < 8 then ((letK p : Nat) : Int) else -1) := by
  have hl : p.data.toList.length = 1 := by rw [size_data]; exact h
  obtain ⟨c, hc⟩ := List.length_eq_one_iff.1 hl
  have hb : byS p 0 = c.toNat := by unfold byS; rw [hc]; rfl
  have := let_fin ⟨c.toNat, c.toNat_lt⟩
  simp only [UInt8.ofNat_toNat] at this
  rw [hc, Lib.index_one, this]
  unfold letK
  rw [if_pos h, hb]
/-- A builder's cells. -/
def putC (s : Put) : Array Value := #[.bool s.f.last, .bool s.f.next, .bool s.f.chain, .bool s.f.fin, .bool s.f.forb, .bool s.f.gone, .bool s.f.app, .bool s.f.disc, .int .i64 s.f.skip, .int .i64 s.f.red, .bool s.sk, .bool s.rd]
def ptrs (b : Nat) : Array Value := #[.pointer (some ⟨b, 0, none⟩), .pointer (some ⟨b, 1, none⟩), .pointer (some ⟨b, 2, none⟩), .pointer (some ⟨b, 3, none⟩), .pointer (some ⟨b, 4, none⟩), .pointer (some ⟨b, 5, none⟩), .pointer (some ⟨b, 6, none⟩), .pointer (some ⟨b, 7, none⟩)]

/-- Where the flag that a part names lies. -/
def flagAt (b : Nat) (p : ByteArray) : Value := .pointer (if letK p < 8 then some ⟨b, letK p, none⟩ else none)
theorem flagAt_yes {b : Nat} {p : ByteArray} (h : letK p < 8) : flagAt b p = .pointer (some ⟨b, letK p, none⟩) := by unfold flagAt; rw [if_pos h]
theorem flagAt_no {b : Nat} {p : ByteArray} (h : ¬ letK p < 8) : flagAt b p = .pointer none := by unfold flagAt; rw [if_neg h]

set_option maxRecDepth 100000 in
set_option maxHeartbeats 4000000 in
theorem fflag (b : Nat) (s : Put) (p : ByteArray) (hp : p.size ≤ 1000000) (w : World) (hm : MaxOk w) (hb : Blk w b 231 (putC s)) :
    Calls Tryz.prog 187 #[.pointer (some ⟨b, 0, none⟩), .string p] w fun e W' => e = .returned (flagAt b p) ∧ Below w.heap.size w W' := by
  have hl := hb.lt
  have h0 := hb.cell' (i := 0) rfl
  have z0 := gr_alloc (Below.refl w.heap.size w) (.cells (ptrs b) 265)
  have b0 := Blk.new w 265 (ptrs b)
  have hmm := hm.below z0 (Nat.le_refl _)
  have HZ := Lib.hid (And.intro b0 z0)
  clear hm z0 b0 hb
  obtain ⟨m, hmm⟩ := hmm
  have HM := Lib.hid hmm
  clear hmm
  go_enter Tryz.func187, Tryz.ntmps187
  go_wp2_with (fail)
  go_region
  go_wp2_with (fail)
  refine (Tryz.strings_Index ⟨#[76, 78, 67, 69, 70, 71, 65, 68]⟩ p m _ (by decide) (by exact HM.out)).mono ?_
  rintro e W1 ⟨rfl, rfl⟩
  by_cases h1 : p.size = 1
  · have hi := let_idx h1
    have h1' : (p.size : Int) = 1 := by omega
    by_cases hk : letK p < 8
    · rw [if_pos hk] at hi
      have HF := Lib.hid (flagAt_yes (b := b) hk)
      obtain ⟨k, hke⟩ : ∃ k, k = letK p := ⟨_, rfl⟩
      rw [← hke] at hi hk HF
      rw [show Lib.index (⟨#[76, 78, 67, 69, 70, 71, 65, 68]⟩ : ByteArray).data.toList p.data.toList = (k : Int) from hi]
      have hc : (w.alloc (.cells (ptrs b) 265)).cell? ⟨w.heap.size, k, none⟩ = some (.pointer (some ⟨b, k, none⟩)) := by
        refine HZ.out.1.cell' ?_
        have : k = 0 ∨ k = 1 ∨ k = 2 ∨ k = 3 ∨ k = 4 ∨ k = 5 ∨ k = 6 ∨ k = 7 := by omega
        rcases this with e | e | e | e | e | e | e | e <;> rw [e] <;> rfl
      have hsz := HZ.out.1.lt
      unfold ptrs at hc hsz
      clear hi hke
      go_wp2_with (fail)
      go_ret
      exact ⟨by rw [HF.out] <;> rfl, gr_drew HZ.out.2⟩
    · rw [if_neg hk] at hi
      have HF := Lib.hid (flagAt_no (b := b) hk)
      rw [show Lib.index (⟨#[76, 78, 67, 69, 70, 71, 65, 68]⟩ : ByteArray).data.toList p.data.toList = -1 from hi]
      clear hi
      go_wp2_with (fail)
      go_ret
      exact ⟨by rw [HF.out] <;> rfl, gr_drew HZ.out.2⟩
  · have hk : ¬ letK p < 8 := by unfold letK; rw [if_neg h1]; omega
    have hq : ((p.size : Int) == 1) = false := by simp; omega
    have HF := Lib.hid (flagAt_no (b := b) hk)
    generalize Lib.index (⟨#[76, 78, 67, 69, 70, 71, 65, 68]⟩ : ByteArray).data.toList p.data.toList = ix
    go_wp2_with (fail)
    go_ret
    exact ⟨by rw [HF.out] <;> rfl, gr_drew HZ.out.2⟩
end Go.Proofs.YthpcbaamkeiffaaGreatDoor
namespace Go.Proofs.YthpcbaamkeiffaaGreatDoor
open Go.RowKit
set_option linter.unusedVariables false
set_option linter.unusedSimpArgs false

/-- Where the first sign of equality lies. -/
def eqAt (p : ByteArray) : Nat := firstN (fun x => decide (byS p x = 61)) p.size
theorem byte_61 {s : ByteArray} {i : Nat} (h : byS s i = 61) : s.data.toList.getD i 0 = 61 := UInt8.toNat_inj.1 h
theorem eq_yes {s : ByteArray} (h : eqAt s < s.size) : Lib.index s.data.toList [61] = (eqAt s : Nat) := by
  rw [Lib.index_one]
  rcases (show Lib.indexByte s.data.toList 61 = -1 ∨ ∃ o : Nat, Lib.indexByte s.data.toList 61 = o from by
    have := Lib.indexByte_ge s.data.toList 61
    rcases (show Lib.indexByte s.data.toList 61 < 0 ∨ 0 ≤ Lib.indexByte s.data.toList 61 by omega) with h | h
    · left; omega
    · right; exact ⟨_, (Int.toNat_of_nonneg h).symm⟩) with e | ⟨o, e⟩
  · have h1 := of_decide_eq_true (firstN_at (P := fun x => decide (byS s x = 61)) h)
    have h2 := Lib.indexByte_none e (eqAt s)
    rw [byS_at h] at h2
    exact absurd (congrArg some (byte_61 h1)) h2
  · obtain ⟨h1, h2⟩ := Lib.indexByte_some e
    have ho : o < s.size := by rw [← size_data]; exact (List.getElem?_eq_some_iff.1 h1).1
    rw [e]
    congr 1
    symm
    refine firstN_is (by omega) (fun x hx => ?_) (fun _ => ?_)
    · have h3 := h2 x hx
      rw [byS_at (by omega)] at h3
      exact decide_eq_false fun h4 => h3 (congrArg some (byte_61 h4))
    · rw [byS_at ho] at h1
      exact decide_eq_true (by unfold byS; rw [Option.some.inj h1]; rfl)
theorem eq_no {s : ByteArray} (h : eqAt s = s.size) : Lib.index s.data.toList [61] = -1 := by
  rw [Lib.index_one]
  have hge := Lib.indexByte_ge s.data.toList 61
  rcases (show Lib.indexByte s.data.toList 61 < 0 ∨ 0 ≤ Lib.indexByte s.data.toList 61 by omega) with h' | h'
  · omega
  · obtain ⟨h1, h2⟩ := Lib.indexByte_some (Int.toNat_of_nonneg h').symm
    have ho : (Lib.indexByte s.data.toList 61).toNat < s.size := by rw [← size_data]; exact (List.getElem?_eq_some_iff.1 h1).1
    have h3 := firstN_lt (P := fun x => decide (byS s x = 61)) (n := s.size) (x := (Lib.indexByte s.data.toList 61).toNat) (by show _ < eqAt s; omega)
    rw [byS_at ho] at h1
    exact absurd (by unfold byS; rw [Option.some.inj h1]; rfl) (of_decide_eq_false h3)
/-- What Cut returns. -/
def cutA (p : ByteArray) : ByteArray := ⟨(Lib.cut p.data.toList [61]).1.toArray⟩
def cutB (p : ByteArray) : ByteArray := ⟨(Lib.cut p.data.toList [61]).2.1.toArray⟩
def cutI (p : ByteArray) : Bool := (Lib.cut p.data.toList [61]).2.2
theorem cut_yes {p : ByteArray} (h : eqAt p < p.size) : cutA p = p.extract 0 (eqAt p) ∧ cutB p = p.extract (eqAt p + 1) p.size ∧ cutI p = true := by
  unfold cutA cutB cutI Lib.cut
  rw [eq_yes h, if_pos (by omega)]
  refine ⟨?_, ?_, rfl⟩
  · apply str_ext
    rw [ext_take]
    simp
  · apply str_ext
    rw [ext_end]
    simp
theorem cut_no {p : ByteArray} (h : eqAt p = p.size) : cutA p = p ∧ cutI p = false := by
  unfold cutA cutI Lib.cut
  rw [eq_no h, if_neg (by omega)]
  exact ⟨by apply str_ext; simp, rfl⟩
theorem one_is {s : ByteArray} {c : Nat} (hc : c < 256) : s = ⟨#[UInt8.ofNat c]⟩ ↔ s.size = 1 ∧ byS s 0 = c := by
  have hcn : (UInt8.ofNat c).toNat = c := by simp; omega
  constructor
  · rintro rfl
    exact ⟨rfl, hcn⟩
  · rintro ⟨h1, h2⟩
    refine str_eq (by rw [h1]; rfl) fun i hi => ?_
    obtain rfl : i = 0 := by omega
    rw [h2]; exact hcn.symm
/-- A letter other than '=' with '=' behind it: the cut. -/
theorem cut_two {p : ByteArray} {c : Nat} (hc : c < 256) (hc61 : c ≠ 61) : (2 ≤ p.size ∧ byS p 0 = c ∧ byS p 1 = 61) ↔ (cutI p = true ∧ cutA p = ⟨#[UInt8.ofNat c]⟩) := by
  constructor
  · rintro ⟨h2, h0, h1⟩
    have e : eqAt p = 1 := firstN_is (by omega) (fun x hx => by
      obtain rfl : x = 0 := by omega
      exact decide_eq_false (by omega)) (fun _ => decide_eq_true h1)
    obtain ⟨k1, k2, k3⟩ := cut_yes (p := p) (by omega)
    refine ⟨k3, ?_⟩
    rw [k1, e]
    exact (one_is hc).2 ⟨by rw [ext_len (by omega)], by rw [byS_ext (by omega) (by omega)]; exact h0⟩
  · rintro ⟨h1, h2⟩
    have hle : eqAt p ≤ p.size := firstN_le _ _
    by_cases e : eqAt p = p.size
    · rw [(cut_no e).2] at h1; cases h1
    · have hlt : eqAt p < p.size := by omega
      obtain ⟨k1, k2, k3⟩ := cut_yes hlt
      rw [k1] at h2
      obtain ⟨j1, j2⟩ := (one_is hc).1 h2
      rw [ext_len (by omega)] at j1
      have e1 : eqAt p = 1 := by omega
      rw [byS_ext (by omega) (by omega)] at j2
      have h3 := of_decide_eq_true (firstN_at (P := fun x => decide (byS p x = 61)) hlt)
      change byS p (eqAt p) = 61 at h3
      rw [e1] at h3
      exact ⟨by omega, j2, h3⟩
theorem cut_rest {p : ByteArray} (h : 2 ≤ p.size) (h0 : byS p 0 ≠ 61) (h1 : byS p 1 = 61) : cutB p = p.extract 2 p.size := by
  have e : eqAt p = 1 := firstN_is (by omega) (fun x hx => by
    obtain rfl : x = 0 := by omega
    exact decide_eq_false h0) (fun _ => decide_eq_true h1)
  rw [(cut_yes (p := p) (by omega)).2.1, e]
theorem isS_cut (p : ByteArray) : isS p = true ↔ cutI p = true ∧ cutA p = ⟨#[83]⟩ := by
  rw [show (⟨#[83]⟩ : ByteArray) = ⟨#[UInt8.ofNat 83]⟩ from rfl, ← cut_two (c := 83) (by decide) (by decide)]
  unfold isS
  simp
theorem isR_cut (p : ByteArray) : isR p = true ↔ cutI p = true ∧ cutA p = ⟨#[82]⟩ := by
  rw [show (⟨#[82]⟩ : ByteArray) = ⟨#[UInt8.ofNat 82]⟩ from rfl, ← cut_two (c := 82) (by decide) (by decide)]
  unfold isR
  simp
theorem isS_rest {p : ByteArray} (h : isS p = true) : cutB p = p.extract 2 p.size := by
  unfold isS at h
  simp at h
  exact cut_rest h.1 (by omega) h.2.2
theorem isR_rest {p : ByteArray} (h : isR p = true) : cutB p = p.extract 2 p.size := by
  unfold isR at h
  simp at h
  exact cut_rest h.1 (by omega) h.2.2
/-- A builder with a flag more. -/
theorem putC_set {s : Put} {k : Nat} (hk : k < 8) : (putC s).setIfInBounds k (.bool true) = putC ⟨set8 s.f k, s.sk, s.rd⟩ := by
  have : k = 0 ∨ k = 1 ∨ k = 2 ∨ k = 3 ∨ k = 4 ∨ k = 5 ∨ k = 6 ∨ k = 7 := by omega
  rcases this with e | e | e | e | e | e | e | e <;> rw [e] <;> rfl
theorem putC_get {s : Put} {k : Nat} (hk : k < 8) : (putC s)[k]? = some (.bool (get8 s.f k)) := by
  have : k = 0 ∨ k = 1 ∨ k = 2 ∨ k = 3 ∨ k = 4 ∨ k = 5 ∨ k = 6 ∨ k = 7 := by omega
  rcases this with e | e | e | e | e | e | e | e <;> rw [e] <;> rfl
end Go.Proofs.YthpcbaamkeiffaaGreatDoor
namespace Go.Proofs.YthpcbaamkeiffaaGreatDoor
open Go.RowKit
set_option linter.unusedVariables false
set_option linter.unusedSimpArgs false

theorem putP_flag {s : Put} {p : ByteArray} (h : letK p < 8) : putP s p = if get8 s.f (letK p) = true then (s, 7) else (⟨set8 s.f (letK p), s.sk, s.rd⟩, 0) := by unfold putP; rw [if_pos h]
theorem putP_S {s : Put} {p : ByteArray} (h : ¬ letK p < 8) (h2 : isS p = true) : putP s p = skP s (numP (p.extract 2 p.size)) := by unfold putP; rw [if_neg h, if_pos h2]
theorem putP_r {s : Put} {p : ByteArray} (h : ¬ letK p < 8) (h2 : ¬ isS p = true) (h3 : p = rE) : putP s p = rdP s 302 := by unfold putP; rw [if_neg h, if_neg h2, if_pos h3]
theorem putP_R {s : Put} {p : ByteArray} (h : ¬ letK p < 8) (h2 : ¬ isS p = true) (h3 : ¬ p = rE) (h4 : isR p = true) : putP s p = rdP s (numP (p.extract 2 p.size)) := by unfold putP; rw [if_neg h, if_neg h2, if_neg h3, if_pos h4]
theorem putP_no {s : Put} {p : ByteArray} (h : ¬ letK p < 8) (h2 : ¬ isS p = true) (h3 : ¬ p = rE) (h4 : ¬ isR p = true) : putP s p = (s, 11) := by unfold putP; rw [if_neg h, if_neg h2, if_neg h3, if_neg h4]
theorem isS_rE : isS rE = false := by decide
theorem letK_rE : ¬ letK rE < 8 := by decide
theorem numC_302 : numC ⟨#[51, 48, 50]⟩ = .tuple #[.int .i64 302, .int .i64 0] := by
  have h : numP ⟨#[51, 48, 50]⟩ = 302 := by decide +kernel
  rw [numC_is (by rw [h]; decide), h]
def PartPost (b : Nat) (s : Put) (p : ByteArray) (w : World) (e : Ending) (W' : World) : Prop :=
  e = .returned (.int .i64 (putP s p).2) ∧ Blk W' b 231 (putC (putP s p).1) ∧ BelowX w.heap.size b w W'

set_option maxRecDepth 100000 in
set_option maxHeartbeats 4000000 in
theorem fpart (b : Nat) (s : Put) (p : ByteArray) (hp : p.size ≤ 1000000) (w : World) (hm : MaxOk w) (hb : Blk w b 231 (putC s)) :
    Calls Tryz.prog 172 #[.pointer (some ⟨b, 0, none⟩), .string p] w (PartPost b s p w) := by
  have HB := Lib.hid hb
  have HM := Lib.hid hm
  have hl := hb.lt
  clear hm hb
  go_enter Tryz.func172, Tryz.ntmps172
  go_wp2_with (fail)
  refine (fflag b s p hp _ HM.out HB.out).mono ?_
  rintro e W1 ⟨rfl, h1⟩
  have H1 := Lib.hid (And.intro (HB.out.call h1) (And.intro (HM.out.below h1 (Nat.le_refl _)) h1))
  clear h1
  by_cases hk : letK p < 8
  · rw [flagAt_yes hk]
    have HP := Lib.hid (putP_flag (s := s) hk)
    obtain ⟨k, hke⟩ : ∃ k, k = letK p := ⟨_, rfl⟩
    rw [← hke] at hk HP ⊢
    clear hke
    have hc := H1.out.1.cell' (putC_get hk)
    have hf := H1.out.1.frozen k
    have hl1 := H1.out.1.lt
    obtain ⟨g, hg⟩ : ∃ g, g = get8 s.f k := ⟨_, rfl⟩
    rw [← hg] at hc HP
    clear hg
    cases g
    · go_wp2_with (fail)
      go_ret
      refine ⟨?_, ?_, ?_⟩
      · rw [HP.out]; rfl
      · rw [HP.out]
        have := H1.out.1.set_ k (.bool true)
        rw [putC_set hk] at this
        exact this
      · exact (BelowX.of_below H1.out.2.2 b).setCell (p := ⟨b, k, none⟩) (.inl rfl) _
    · go_wp2_with (fail)
      go_ret
      refine ⟨?_, ?_, ?_⟩
      · rw [HP.out]; rfl
      · rw [HP.out]; exact H1.out.1
      · exact BelowX.of_below H1.out.2.2 b
  · rw [flagAt_no hk]
    obtain ⟨m, hmm⟩ := H1.out.2.1
    have HMM := Lib.hid hmm
    have hl1 := H1.out.1.lt
    clear hmm
    go_wp2_with (fail)
    refine (Tryz.strings_Cut p ⟨#[61]⟩ m _ (by omega) HMM.out).mono ?_
    rintro e W2 ⟨rfl, n2, rfl⟩
    have hA : ∀ l D I, l = cutA p → D = cutB p → I = cutI p → True := fun _ _ _ _ _ _ => trivial
    clear hA
    obtain ⟨l, hle⟩ : ∃ l, l = cutA p := ⟨_, rfl⟩
    obtain ⟨d, hde⟩ : ∃ d, d = cutB p := ⟨_, rfl⟩
    obtain ⟨ii, hie⟩ : ∃ ii, ii = cutI p := ⟨_, rfl⟩
    rw [show (⟨(Lib.cut p.data.toList (⟨#[61]⟩ : ByteArray).data.toList).1.toArray⟩ : ByteArray) = l from hle.symm, show (⟨(Lib.cut p.data.toList (⟨#[61]⟩ : ByteArray).data.toList).2.1.toArray⟩ : ByteArray) = d from hde.symm, show (Lib.cut p.data.toList (⟨#[61]⟩ : ByteArray).data.toList).2.2 = ii from hie.symm]
    have c10 : W1.cell? ⟨b, 10, none⟩ = some (.bool s.sk) := H1.out.1.cell' (i := 10) rfl
    have c11 : W1.cell? ⟨b, 11, none⟩ = some (.bool s.rd) := H1.out.1.cell' (i := 11) rfl
    have c8 : W1.cell? ⟨b, 8, none⟩ = some (.int .i64 s.f.skip) := H1.out.1.cell' (i := 8) rfl
    have c9 : W1.cell? ⟨b, 9, none⟩ = some (.int .i64 s.f.red) := H1.out.1.cell' (i := 9) rfl
    have f10 := H1.out.1.frozen 10
    have f11 := H1.out.1.frozen 11
    have f8 := H1.out.1.frozen 8
    have f9 := H1.out.1.frozen 9
    have hlb := beq_lit l [83]
    have hlc := beq_lit l [82]
    have hpb := beq_lit p [82]
    have HX := Lib.hid (BelowX.of_below H1.out.2.2 b)
    by_cases hr : p = rE
    · have HP := Lib.hid (putP_r (s := s) hk (by rw [hr, isS_rE]; decide) hr)
      rw [decide_eq_true (show p = ⟨[82].toArray⟩ from hr)] at hpb
      clear hlb hlc hle hde hie hr hk
      go_wp2_with (fail)
      refine (fnum ⟨#[51, 48, 50]⟩ (by decide) _).mono ?_
      rintro e W3 ⟨rfl, rfl⟩
      rw [numC_302]
      cases hh : s.rd
      · have HQ : Hid ((rdP s 302).2 = 0 ∧ (rdP s 302).1 = ⟨⟨s.f.last, s.f.next, s.f.chain, s.f.fin, s.f.forb, s.f.gone, s.f.app, s.f.disc, s.f.skip, 302⟩, s.sk, true⟩) := Lib.hid (by unfold rdP; rw [if_neg (by decide), hh]; exact ⟨rfl, rfl⟩)
        rw [hh] at c11
        go_wp2_with (fail)
        go_quiet (fail)
        go_wp2_with (fail)
        go_quiet (fail)
        go_wp2_with (fail)
        go_ret
        refine ⟨by rw [HP.out, HQ.out.1] <;> rfl, ?_, ?_⟩
        · rw [HP.out, HQ.out.2]
          exact (((H1.out.1.drewN _).set_ 11 (.bool true)).set_ 9 (.int .i64 302))
        · exact ((HX.out.drewN _).setCell (p := ⟨b, 11, none⟩) (.inl rfl) _).setCell (p := ⟨b, 9, none⟩) (.inl rfl) _
      · have HQ : Hid ((rdP s 302) = (s, 7)) := Lib.hid (by unfold rdP; rw [if_neg (by decide), hh]; rfl)
        rw [hh] at c11
        go_wp2_with (fail)
        go_quiet (fail)
        go_wp2_with (fail)
        go_quiet (fail)
        go_wp2_with (fail)
        go_ret
        exact ⟨by rw [HP.out, HQ.out] <;> rfl, by rw [HP.out, HQ.out]; exact H1.out.1.drewN _, HX.out.drewN _⟩
    · rw [decide_eq_false (show ¬ p = ⟨[82].toArray⟩ from hr)] at hpb
      by_cases hS : isS p = true
      · have HP := Lib.hid (putP_S (s := s) hk hS)
        have hc := (isS_cut p).1 hS
        rw [← hle, ← hie] at hc
        have hd2 := isS_rest hS
        rw [← hde] at hd2
        rw [← hd2] at HP
        have hdz : d.size ≤ 1000000 := by rw [hd2, ext_len (Nat.le_refl _)]; omega
        rw [hc.1]
        rw [decide_eq_true (show l = ⟨[83].toArray⟩ from hc.2)] at hlb
        rw [hc.2, decide_eq_false (by decide)] at hlc
        rw [hc.2] at hlb
        rw [hc.2]
        clear hle hde hie hr hk hS hc hd2
        go_wp2_with (fail)
        refine (fnum d hdz _).mono ?_
        rintro e W3 ⟨rfl, rfl⟩
        by_cases hng : numP d < 0
        · have HQ : Hid ((skP s (numP d)) = (s, 3)) := Lib.hid (by unfold skP; rw [if_pos hng])
          rw [numC_no hng]
          clear hng
          go_wp2_with (fail)
          go_quiet (fail)
          go_wp2_with (fail)
          go_ret
          exact ⟨by rw [HP.out, HQ.out] <;> rfl, by rw [HP.out, HQ.out]; exact H1.out.1.drewN _, HX.out.drewN _⟩
        · rw [numC_is hng]
          obtain ⟨v, hv⟩ : ∃ v, v = numP d := ⟨_, rfl⟩
          have hvb := numP_bounds d
          rw [← hv] at hng hvb HP ⊢
          clear hv
          cases hh : s.sk
          · have HQ : Hid ((skP s v).2 = 0 ∧ (skP s v).1 = ⟨⟨s.f.last, s.f.next, s.f.chain, s.f.fin, s.f.forb, s.f.gone, s.f.app, s.f.disc, v, s.f.red⟩, true, s.rd⟩) := Lib.hid (by unfold skP; rw [if_neg (hng), hh]; exact ⟨rfl, rfl⟩)
            rw [hh] at c10
            go_wp2_with (fail)
            go_quiet (fail)
            go_wp2_with (fail)
            go_ret
            refine ⟨by rw [HP.out, HQ.out.1] <;> rfl, ?_, ?_⟩
            · rw [HP.out, HQ.out.2]
              exact (((H1.out.1.drewN _).set_ 10 (.bool true)).set_ 8 (.int .i64 v))
            · exact ((HX.out.drewN _).setCell (p := ⟨b, 10, none⟩) (.inl rfl) _).setCell (p := ⟨b, 8, none⟩) (.inl rfl) _
          · have HQ : Hid ((skP s v) = (s, 7)) := Lib.hid (by unfold skP; rw [if_neg (hng), hh]; rfl)
            rw [hh] at c10
            go_wp2_with (fail)
            go_quiet (fail)
            go_wp2_with (fail)
            go_ret
            exact ⟨by rw [HP.out, HQ.out] <;> rfl, by rw [HP.out, HQ.out]; exact H1.out.1.drewN _, HX.out.drewN _⟩
      · by_cases hR : isR p = true
        · have HP := Lib.hid (putP_R (s := s) hk hS hr hR)
          have hc := (isR_cut p).1 hR
          rw [← hle, ← hie] at hc
          have hd2 := isR_rest hR
          rw [← hde] at hd2
          rw [← hd2] at HP
          have hdz : d.size ≤ 1000000 := by rw [hd2, ext_len (Nat.le_refl _)]; omega
          rw [hc.1]
          rw [decide_eq_true (show l = ⟨[82].toArray⟩ from hc.2)] at hlc
          rw [hc.2, decide_eq_false (by decide)] at hlb
          rw [hc.2] at hlc
          rw [hc.2]
          clear hle hde hie hr hk hS hR hc hd2
          go_wp2_with (fail)
          refine (fnum d hdz _).mono ?_
          rintro e W3 ⟨rfl, rfl⟩
          by_cases hng : numP d < 0
          · have HQ : Hid ((rdP s (numP d)) = (s, 3)) := Lib.hid (by unfold rdP; rw [if_pos hng])
            rw [numC_no hng]
            clear hng
            go_wp2_with (fail)
            go_quiet (fail)
            go_wp2_with (fail)
            go_quiet (fail)
            go_wp2_with (fail)
            go_ret
            exact ⟨by rw [HP.out, HQ.out] <;> rfl, by rw [HP.out, HQ.out]; exact H1.out.1.drewN _, HX.out.drewN _⟩
          · rw [numC_is hng]
            obtain ⟨v, hv⟩ : ∃ v, v = numP d := ⟨_, rfl⟩
            have hvb := numP_bounds d
            rw [← hv] at hng hvb HP ⊢
            clear hv
            cases hh : s.rd
            · have HQ : Hid ((rdP s v).2 = 0 ∧ (rdP s v).1 = ⟨⟨s.f.last, s.f.next, s.f.chain, s.f.fin, s.f.forb, s.f.gone, s.f.app, s.f.disc, s.f.skip, v⟩, s.sk, true⟩) := Lib.hid (by unfold rdP; rw [if_neg (hng), hh]; exact ⟨rfl, rfl⟩)
              rw [hh] at c11
              go_wp2_with (fail)
              go_quiet (fail)
              go_wp2_with (fail)
              go_quiet (fail)
              go_wp2_with (fail)
              go_ret
              refine ⟨by rw [HP.out, HQ.out.1] <;> rfl, ?_, ?_⟩
              · rw [HP.out, HQ.out.2]
                exact (((H1.out.1.drewN _).set_ 11 (.bool true)).set_ 9 (.int .i64 v))
              · exact ((HX.out.drewN _).setCell (p := ⟨b, 11, none⟩) (.inl rfl) _).setCell (p := ⟨b, 9, none⟩) (.inl rfl) _
            · have HQ : Hid ((rdP s v) = (s, 7)) := Lib.hid (by unfold rdP; rw [if_neg (hng), hh]; rfl)
              rw [hh] at c11
              go_wp2_with (fail)
              go_quiet (fail)
              go_wp2_with (fail)
              go_quiet (fail)
              go_wp2_with (fail)
              go_ret
              exact ⟨by rw [HP.out, HQ.out] <;> rfl, by rw [HP.out, HQ.out]; exact H1.out.1.drewN _, HX.out.drewN _⟩
        · have HP := Lib.hid (putP_no (s := s) hk hS hr hR)
          have hn : ii = false ∨ ((l.toList == [83]) = false ∧ (l.toList == [82]) = false) := by
            cases hii : ii
            · left; rfl
            · right
              rw [hie] at hii
              rw [hlb, hlc]
              exact ⟨decide_eq_false fun e => hS ((isS_cut p).2 ⟨hii, by rw [← hle]; exact e⟩), decide_eq_false fun e => hR ((isR_cut p).2 ⟨hii, by rw [← hle]; exact e⟩)⟩
          clear hlb hlc hle hde hie hr hk hS hR
          rcases hn with rfl | ⟨hn1, hn2⟩
          · go_wp2_with (fail)
            go_ret
            refine ⟨by rw [HP.out] <;> rfl, by rw [HP.out]; exact H1.out.1.drewN _, HX.out.drewN _⟩
          · cases ii
            · go_wp2_with (fail)
              go_ret
              refine ⟨by rw [HP.out] <;> rfl, by rw [HP.out]; exact H1.out.1.drewN _, HX.out.drewN _⟩
            · go_wp2_with (fail)
              go_ret
              refine ⟨by rw [HP.out] <;> rfl, by rw [HP.out]; exact H1.out.1.drewN _, HX.out.drewN _⟩
end Go.Proofs.YthpcbaamkeiffaaGreatDoor
namespace Go.Proofs.YthpcbaamkeiffaaGreatDoor
open Go.RowKit Go.Joins
set_option linter.unusedVariables false
set_option linter.unusedSimpArgs false

theorem below_grow (w : World) (k : Nat) (os : Array Obj) : Below w.heap.size w (Sort.grow (w.drewN k) os) :=
  ⟨rfl, rfl, rfl, by simp [Sort.grow], fun i hi => Sort.heap_grow_old (w.drewN k) os hi⟩
theorem itoaB (n : Int) (h0 : -9223372036854775808 ≤ n) (h1 : n ≤ 9223372036854775807) (w : World) (hT : Tabs w) :
    Calls Tryz.prog 68 #[.int .i64 n] w fun e w' => e = .returned (.string ⟨(Lib.itoa n).toArray⟩) ∧ Below w.heap.size w w' :=
  (Tryz.strconv_Itoa n h0 h1 w hT.2).mono fun e w' ⟨he, k, os, hw⟩ => ⟨he, by rw [hw]; exact below_grow w k os⟩
theorem one_str (s : ByteArray) : ∀ u ∈ [Value.string s], u.oneCell' = true := by
  intro u hu
  simp at hu
  subst hu
  rfl
theorem wayL_succ (f : Flg) (k : Nat) (h : way6 f k = true) : wayL f (k + 1) = wayL f k ++ [letter k] := by
  show wayL f k ++ (if way6 f k then _ else _) = _
  rw [if_pos h]; rfl
theorem wayL_same (f : Flg) (k : Nat) (h : way6 f k = false) : wayL f (k + 1) = wayL f k := by
  show wayL f k ++ (if way6 f k then _ else _) = _
  rw [h]; simp

theorem itoa_small : ∀ n : Nat, n < 64 → (⟨(Lib.itoa (n : Int)).toArray⟩ : ByteArray).size ≤ 100 := by decide +kernel
theorem itoa_skip (x : Int) (h0 : 0 ≤ x) (h1 : x < 64) : (⟨(Lib.itoa x).toArray⟩ : ByteArray).size ≤ 100 := by
  obtain ⟨n, rfl⟩ := Int.eq_ofNat_of_zero_le h0
  exact itoa_small n (by omega)
theorem codeR_cases {x : Int} (h : codeR x = true) : x = 301 ∨ x = 302 ∨ x = 303 ∨ x = 307 ∨ x = 308 := by
  unfold codeR at h
  simp only [Bool.or_eq_true, beq_iff_eq] at h
  omega
theorem itoa_red (x : Int) (h : codeR x = true) : (⟨(Lib.itoa x).toArray⟩ : ByteArray).size ≤ 100 := by
  rcases codeR_cases h with rfl | rfl | rfl | rfl | rfl <;> decide +kernel
theorem red_bounds (x : Int) (h : codeR x = true) : 301 ≤ x ∧ x ≤ 308 := by
  rcases codeR_cases h with rfl | rfl | rfl | rfl | rfl <;> decide

set_option maxRecDepth 100000 in
set_option maxHeartbeats 4000000 in
theorem fways (f : Flg) (hs : 0 ≤ f.skip ∧ f.skip < 64) (hr : (codeR f.red || f.red == 0) = true) (w : World) (hT : Tabs w) :
    Calls Tryz.prog 69 #[Value.agg #[Value.bool f.last, .bool f.next, .bool f.chain, .bool f.fin, .bool f.forb, .bool f.gone, .bool f.app, .bool f.disc, .int .i64 f.skip, .int .i64 f.red]] w fun e W' => ∃ v, e = .returned v ∧ W'.ownsRow w.heap.size 9 1 v (waysL f).length ((waysL f).map .string) ∧ Below w.heap.size w W' := by
  obtain ⟨i0, hi, hz0, hz1, hz2⟩ := info_parts infoStr
  have HT := Lib.hid hT
  have HR := Lib.hid hr
  clear hT hr
  go_enter Tryz.func69, Tryz.ntmps69
  go_wp2_with (fail)
  go_loopw [3, 19] (fun v i wr => WayRel f w v i wr) (fun _ i _ => 6 - (intOf i).toNat)
  case atStart => exact ⟨0, by decide, rfl, World.ownsRow_nil _ _ _ _, Blk.new _ _ _, (Below.refl _ _).alloc (Nat.le_refl _) _⟩
  case round =>
    obtain ⟨k, hk, rfl, hown, hblk, hbel⟩ := hrel
    by_cases hlt : k < 6
    · have hix := idx_way f k hlt
      have hsub := sub_letter k hlt
      generalize hb : way6 f k = b at hix
      obtain ⟨va, vc, rfl⟩ := own_slice hown
      have hle := wayL_le f k
      cases b with
      | false =>
        have H := Lib.hid (And.intro hown (And.intro hblk hbel))
        clear hown hblk hbel
        go_wp2_with (fail)
        refine ⟨⟨k + 1, by omega, by go_num, by rw [wayL_same f k hb]; exact H.out.1, H.out.2.1, H.out.2.2⟩, by simp [intOf]; omega⟩
      | true =>
        have hsz := hbel.size
        go_wp2_with (at_builtin; refine wpList_append_own _ rfl _ _ 52 rfl w.heap.size 9 i0 (.string ⟨#[]⟩) 1 16 Tryz.underlying52 hi hz0 hz1 hz2 rfl (by decide) _ _ _ rfl (hown.alloc _) ⟨wr.heap.size, 0, none⟩ 1 1 [.string (letter k)] rfl rfl ?c1 ?c2 ?c3 ?c4 ?c5 ?_)
        case c1 => exact one_new rfl _ _
        case c2 => exact one_str _
        case c3 => unfold maxLen; omega
        case c4 => omega
        case c5 => simp; omega
        intro v' w2 hown' hgrow _
        obtain ⟨vb, vd, rfl⟩ := own_slice hown'
        have ha := Blk.alloc hblk (.cells #[.string (letter k)] 9)
        have hblk2 := ha.grown hgrow (own_blk_ne (hown.alloc _) ha (by decide))
        have hbel2 := (hbel.alloc hbel.size (.cells #[.string (letter k)] 9)).grown hgrow (by simp; omega) (fun k hk => (hown.lt k hk).1)
        have H := Lib.hid (And.intro hown' (And.intro hblk2 hbel2))
        clear hown hblk hbel ha hgrow hown' hblk2 hbel2
        go_wp2_with (fail)
        refine ⟨⟨k + 1, by omega, by go_num, ?_, H.out.2.1, H.out.2.2⟩, by simp [intOf]; omega⟩
        rw [wayL_succ f k hb, List.length_append, List.map_append]
        exact H.out.1
    · obtain rfl : k = 6 := by omega
      have hl6 := wayL_le f 6
      obtain ⟨va, vc, rfl⟩ := own_slice hown
      by_cases hskip : f.skip = 0
      · have hsl : skipL f = [] := by unfold skipL; rw [if_pos hskip]
        have H := Lib.hid (And.intro hown (And.intro hblk hbel))
        have k8 := hblk.cell' (i := 8) rfl
        have k9 := hblk.cell' (i := 9) rfl
        have hsz := hbel.size
        have hlt8 := hblk.lt
        clear hown hblk hbel
        by_cases hred : f.red = 0
        · have hrl : redL f = [] := by unfold redL; rw [if_pos hred]
          go_wp2_with (fail)
          go_ret
          exact ⟨_, rfl, by unfold waysL; rw [hrl, hsl, List.append_nil, List.append_nil]; exact H.out.1, H.out.2.2⟩
        · have hrl : redL f = [⟨#[82, 61]⟩ ++ ⟨(Lib.itoa f.red).toArray⟩] := by unfold redL; rw [if_neg hred]
          have hcr : codeR f.red = true := by have := HR.out; rw [beq_eq_false_iff_ne.2 hred] at this; simpa using this
          have hz := itoa_red f.red hcr
          have hb2 := red_bounds f.red hcr
          go_wp2_with (fail)
          refine (itoaB f.red (by omega) (by omega) _ (HT.out.below H.out.2.2 (Nat.le_refl _))).mono ?_
          rintro e W5 ⟨rfl, h5⟩
          generalize hss : (⟨(Lib.itoa f.red).toArray⟩ : ByteArray) = ss at hrl hz
          have hownR := own_below H.out.1 h5 (Nat.le_refl _)
          have hbelR := gr_call H.out.2.2 h5
          have hszR := hbelR.size
          skip
          clear H hss h5
          go_wp2_with (at_builtin; refine wpList_append_own _ rfl _ _ 52 rfl w.heap.size 9 i0 (.string ⟨#[]⟩) 1 16 Tryz.underlying52 hi hz0 hz1 hz2 rfl (by decide) _ _ _ rfl (hownR.alloc _) ⟨W5.heap.size, 0, none⟩ 1 1 [.string (⟨#[82, 61]⟩ ++ ss)] rfl rfl ?r1 ?r2 ?r3 ?r4 ?r5 ?_)
          case r1 => exact one_new rfl _ _
          case r2 => exact one_str _
          case r3 => unfold maxLen; omega
          case r4 => omega
          case r5 => simp; omega
          intro v' w2 hown' hgrow _
          have hbel2 := (hbelR.alloc hbelR.size (.cells #[.string (⟨#[82, 61]⟩ ++ ss)] 9)).grown hgrow (by simp; omega) (fun k hk => (hownR.lt k hk).1)
          have H := Lib.hid (And.intro hown' hbel2)
          clear hownR hbelR hown' hgrow hbel2
          go_wp2_with (fail)
          go_ret
          refine ⟨_, rfl, ?_, H.out.2⟩
          unfold waysL
          rw [hrl, hsl, List.append_nil, List.length_append, List.map_append]
          exact H.out.1
      · have hsl : skipL f = [⟨#[83, 61]⟩ ++ ⟨(Lib.itoa f.skip).toArray⟩] := by unfold skipL; rw [if_neg hskip]
        have hz := itoa_skip f.skip hs.1 hs.2
        have k8 := hblk.cell' (i := 8) rfl
        have k9 := hblk.cell' (i := 9) rfl
        have hsz := hbel.size
        have hlt8 := hblk.lt
        have H0 := Lib.hid (And.intro hown (And.intro hblk hbel))
        clear hown hblk hbel
        go_wp2_with (fail)
        refine (itoaB f.skip (by omega) (by omega) _ (HT.out.below H0.out.2.2 (Nat.le_refl _))).mono ?_
        rintro e W4 ⟨rfl, h4⟩
        generalize hss : (⟨(Lib.itoa f.skip).toArray⟩ : ByteArray) = ss at hsl hz
        have hownS := own_below H0.out.1 h4 (Nat.le_refl _)
        have hblkS := H0.out.2.1.call h4
        have hbelS := gr_call H0.out.2.2 h4
        have hszS := hbelS.size
        skip
        clear H0 hss h4 k8 k9 hlt8
        go_wp2_with (at_builtin; refine wpList_append_own _ rfl _ _ 52 rfl w.heap.size 9 i0 (.string ⟨#[]⟩) 1 16 Tryz.underlying52 hi hz0 hz1 hz2 rfl (by decide) _ _ _ rfl (hownS.alloc _) ⟨W4.heap.size, 0, none⟩ 1 1 [.string (⟨#[83, 61]⟩ ++ ss)] rfl rfl ?s1 ?s2 ?s3 ?s4 ?s5 ?_)
        case s1 => exact one_new rfl _ _
        case s2 => exact one_str _
        case s3 => unfold maxLen; omega
        case s4 => omega
        case s5 => simp; omega
        intro v' w2 hown' hgrow _
        obtain ⟨vp, vq, rfl⟩ := own_slice hown'
        have hbel2 := (hbelS.alloc hbelS.size (.cells #[.string (⟨#[83, 61]⟩ ++ ss)] 9)).grown hgrow (by simp; omega) (fun k hk => (hownS.lt k hk).1)
        have ha := Blk.alloc hblkS (.cells #[.string (⟨#[83, 61]⟩ ++ ss)] 9)
        have hblk2 := ha.grown hgrow (own_blk_ne (hownS.alloc _) ha (by decide))
        have H : Hid (w2.ownsRow w.heap.size 9 1 (.slice vp ((wayL f 6).length + 1) vq) (wayL f 6 ++ skipL f).length ((wayL f 6 ++ skipL f).map .string) ∧ Blk w2 w.heap.size 64 #[Value.bool f.last, .bool f.next, .bool f.chain, .bool f.fin, .bool f.forb, .bool f.gone, .bool f.app, .bool f.disc, .int .i64 f.skip, .int .i64 f.red] ∧ Below w.heap.size w w2) := Lib.hid ⟨by rw [hsl, List.length_append, List.map_append]; exact hown', hblk2, hbel2⟩
        have hl7 : (wayL f 6 ++ skipL f).length = (wayL f 6).length + 1 := by rw [hsl, List.length_append]; rfl
        have k8 := hblk2.cell' (i := 8) rfl
        have k9 := hblk2.cell' (i := 9) rfl
        have hsz := hbel2.size
        have hlt8 := hblk2.lt
        clear hownS hblkS hbelS hown' hgrow hbel2 ha hblk2
        by_cases hred : f.red = 0
        · have hrl : redL f = [] := by unfold redL; rw [if_pos hred]
          go_wp2_with (fail)
          go_ret
          exact ⟨_, rfl, by unfold waysL; rw [hrl]; rw [List.append_nil]; exact H.out.1, H.out.2.2⟩
        · have hrl : redL f = [⟨#[82, 61]⟩ ++ ⟨(Lib.itoa f.red).toArray⟩] := by unfold redL; rw [if_neg hred]
          have hcr : codeR f.red = true := by have := HR.out; rw [beq_eq_false_iff_ne.2 hred] at this; simpa using this
          have hz := itoa_red f.red hcr
          have hb2 := red_bounds f.red hcr
          go_wp2_with (fail)
          refine (itoaB f.red (by omega) (by omega) _ (HT.out.below H.out.2.2 (Nat.le_refl _))).mono ?_
          rintro e W5 ⟨rfl, h5⟩
          generalize hss : (⟨(Lib.itoa f.red).toArray⟩ : ByteArray) = ss at hrl hz
          have hownR := own_below H.out.1 h5 (Nat.le_refl _)
          have hbelR := gr_call H.out.2.2 h5
          have hszR := hbelR.size
          rw [hl7] at hownR
          clear H hss h5
          go_wp2_with (at_builtin; refine wpList_append_own _ rfl _ _ 52 rfl w.heap.size 9 i0 (.string ⟨#[]⟩) 1 16 Tryz.underlying52 hi hz0 hz1 hz2 rfl (by decide) _ _ _ rfl (hownR.alloc _) ⟨W5.heap.size, 0, none⟩ 1 1 [.string (⟨#[82, 61]⟩ ++ ss)] rfl rfl ?r1 ?r2 ?r3 ?r4 ?r5 ?_)
          case r1 => exact one_new rfl _ _
          case r2 => exact one_str _
          case r3 => unfold maxLen; omega
          case r4 => omega
          case r5 => simp; omega
          intro v' w2 hown' hgrow _
          have hbel2 := (hbelR.alloc hbelR.size (.cells #[.string (⟨#[82, 61]⟩ ++ ss)] 9)).grown hgrow (by simp; omega) (fun k hk => (hownR.lt k hk).1)
          have H := Lib.hid (And.intro hown' hbel2)
          clear hownR hbelR hown' hgrow hbel2
          go_wp2_with (fail)
          go_ret
          refine ⟨v', rfl, ?_, H.out.2⟩
          have h1 := H.out.1
          unfold waysL
          rw [hrl, hsl]
          simpa [List.length_append, List.map_append, Nat.add_assoc] using h1
end Go.Proofs.YthpcbaamkeiffaaGreatDoor
namespace Go.Proofs.YthpcbaamkeiffaaGreatDoor
open Go.RowKit Go.Joins
set_option linter.unusedVariables false
set_option linter.unusedSimpArgs false

theorem chk_num {f : Flg} (h : f.skip < 0 ∨ 64 ≤ f.skip ∨ (codeR f.red || f.red == 0) = false) : chkF f = 2 := by
  unfold chkF
  rw [if_pos]
  unfold badNum
  rcases h with h | h | h
  · rw [decide_eq_true h]; rfl
  · rw [decide_eq_true (p := 64 ≤ f.skip) h]; simp
  · rw [h]; simp
theorem chk_way {f : Flg} (h0 : 0 ≤ f.skip) (h1 : f.skip < 64) (h2 : (codeR f.red || f.red == 0) = true) : chkF f = if badWay f then 15 else 0 := by
  unfold chkF
  rw [if_neg]
  unfold badNum
  rw [decide_eq_false (by omega), decide_eq_false (p := 64 ≤ f.skip) (by omega), h2]
  simp

set_option maxRecDepth 100000 in
set_option maxHeartbeats 4000000 in
theorem fcheck (f : Flg) (hb : (-9223372036854775808 ≤ f.skip ∧ f.skip ≤ 9223372036854775807)) (w : World) (hT : Tabs w) :
    Calls Tryz.prog 63 #[Value.agg #[Value.bool f.last, .bool f.next, .bool f.chain, .bool f.fin, .bool f.forb, .bool f.gone, .bool f.app, .bool f.disc, .int .i64 f.skip, .int .i64 f.red]] w fun e W' => e = .returned (.int .i64 (chkF f)) ∧ Below w.heap.size w W' := by
  have HT := Lib.hid hT
  have i0 := gr_alloc (Below.refl w.heap.size w) (.cells #[Value.bool f.last, .bool f.next, .bool f.chain, .bool f.fin, .bool f.forb, .bool f.gone, .bool f.app, .bool f.disc, .int .i64 f.skip, .int .i64 f.red] 64)
  have f0 := Blk.new w 64 #[Value.bool f.last, .bool f.next, .bool f.chain, .bool f.fin, .bool f.forb, .bool f.gone, .bool f.app, .bool f.disc, .int .i64 f.skip, .int .i64 f.red]
  have H0 := Lib.hid (And.intro f0 i0)
  clear hT f0 i0
  by_cases h1 : f.skip < 0
  · go_enter Tryz.func63, Tryz.ntmps63
    go_wp2_with (fail)
    go_ret
    exact ⟨ret_int (chk_num (Or.inl h1)).symm, H0.out.2⟩
  by_cases h2 : 64 ≤ f.skip
  · go_enter Tryz.func63, Tryz.ntmps63
    go_wp2_with (fail)
    go_ret
    exact ⟨ret_int (chk_num (Or.inr (Or.inl h2))).symm, H0.out.2⟩
  go_enter Tryz.func63, Tryz.ntmps63
  go_wp2_with (fail)
  refine (fcode f.red _ (HT.out.below H0.out.2 (Nat.le_refl _))).mono ?_
  rintro e W1 ⟨rfl, rfl⟩
  cases hc : (codeR f.red || f.red == 0) with
  | false =>
    have HC := Lib.hid hc
    clear hc
    go_wp2_with (fail)
    go_ret
    exact ⟨ret_int (chk_num (Or.inr (Or.inr HC.out))).symm, H0.out.2⟩
  | true =>
    have HC := Lib.hid hc
    clear hc
    go_wp2_with (fail)
    refine (fways f ⟨by omega, by omega⟩ HC.out _ (HT.out.below H0.out.2 (Nat.le_refl _))).mono ?_
    rintro e W2 ⟨v, rfl, hown, h2w⟩
    obtain ⟨va, vc, rfl⟩ := own_slice hown
    have hblk := H0.out.1.call h2w
    have hbel := gr_call H0.out.2 h2w
    have hl := waysL_len f
    rw [hl]
    have hcw := chk_way (f := f) (by omega) (by omega) HC.out
    clear hown h2w
    have k4 := hblk.cell' (i := 4) rfl
    have k5 := hblk.cell' (i := 5) rfl
    have k6 := hblk.cell' (i := 6) rfl
    have k7 := hblk.cell' (i := 7) rfl
    have hlt := hblk.lt
    have H := Lib.hid (And.intro hcw hbel)
    clear hcw hbel hblk hl
    generalize hn : endN f 8 = n
    generalize happ : f.app = ba at k6
    generalize hdis : f.disc = bd at k7
    generalize hfo : f.forb = bf at k4
    generalize hgo : f.gone = bg at k5
    have HB := Lib.hid (And.intro hn (And.intro happ (And.intro hdis (And.intro hfo hgo))))
    clear hn happ hdis hfo hgo
    by_cases hn1 : 1 < n
    · have hnb : ((1 : Int) < (n : Int)) := by omega
      go_wp2_with (fail)
      go_ret
      refine ⟨ret_int ?_, H.out.2⟩
      rw [H.out.1, if_pos]
      unfold badWay
      rw [HB.out.1, decide_eq_true hn1]; rfl
    · have hnb : ¬ ((1 : Int) < (n : Int)) := by omega
      cases ba <;> cases bd <;> cases bf <;> cases bg
      all_goals (
        go_wp2_with (fail)
        go_ret
        refine ⟨ret_int ?_, H.out.2⟩
        rw [H.out.1]
        unfold badWay
        rw [HB.out.1, HB.out.2.1, HB.out.2.2.1, HB.out.2.2.2.1, HB.out.2.2.2.2, decide_eq_false hn1]
        rfl)
end Go.Proofs.YthpcbaamkeiffaaGreatDoor
namespace Go.Proofs.YthpcbaamkeiffaaGreatDoor
open Go.RowKit
set_option linter.unusedVariables false
set_option linter.unusedSimpArgs false

theorem whole_2 {s : Put} (h : (s.sk = true ∧ s.f.skip = 0) ∨ (s.rd = true ∧ s.f.red = 0)) : wholeP s = 2 := by unfold wholeP; rw [if_pos h]
theorem whole_c {s : Put} (h : ¬ ((s.sk = true ∧ s.f.skip = 0) ∨ (s.rd = true ∧ s.f.red = 0))) : wholeP s = chkF s.f := by unfold wholeP; rw [if_neg h]
set_option maxRecDepth 100000 in
set_option maxHeartbeats 4000000 in
theorem fcheckB (b : Nat) (s : Put) (hok : PutOk s) (w : World) (hT : Tabs w) (hb : Blk w b 231 (putC s)) :
    Calls Tryz.prog 173 #[.pointer (some ⟨b, 0, none⟩)] w fun e W' => e = .returned (.int .i64 (wholeP s)) ∧ Below w.heap.size w W' := by
  have c0 : w.cell? ⟨b, 0, none⟩ = some (.bool s.f.last) := hb.cell' (i := 0) rfl
  have c1 : w.cell? ⟨b, 1, none⟩ = some (.bool s.f.next) := hb.cell' (i := 1) rfl
  have c2 : w.cell? ⟨b, 2, none⟩ = some (.bool s.f.chain) := hb.cell' (i := 2) rfl
  have c3 : w.cell? ⟨b, 3, none⟩ = some (.bool s.f.fin) := hb.cell' (i := 3) rfl
  have c4 : w.cell? ⟨b, 4, none⟩ = some (.bool s.f.forb) := hb.cell' (i := 4) rfl
  have c5 : w.cell? ⟨b, 5, none⟩ = some (.bool s.f.gone) := hb.cell' (i := 5) rfl
  have c6 : w.cell? ⟨b, 6, none⟩ = some (.bool s.f.app) := hb.cell' (i := 6) rfl
  have c7 : w.cell? ⟨b, 7, none⟩ = some (.bool s.f.disc) := hb.cell' (i := 7) rfl
  have c8 : w.cell? ⟨b, 8, none⟩ = some (.int .i64 s.f.skip) := hb.cell' (i := 8) rfl
  have c9 : w.cell? ⟨b, 9, none⟩ = some (.int .i64 s.f.red) := hb.cell' (i := 9) rfl
  have c10 : w.cell? ⟨b, 10, none⟩ = some (.bool s.sk) := hb.cell' (i := 10) rfl
  have c11 : w.cell? ⟨b, 11, none⟩ = some (.bool s.rd) := hb.cell' (i := 11) rfl
  have hl := hb.lt
  have HT := Lib.hid (And.intro hT hok)
  clear hT hok hb
  obtain ⟨f, sk, rd⟩ := s
  simp only at c0 c1 c2 c3 c4 c5 c6 c7 c8 c9 c10 c11
  have H2 := Lib.hid (@whole_2 ⟨f, sk, rd⟩)
  have HC := Lib.hid (@whole_c ⟨f, sk, rd⟩)
  by_cases z8 : f.skip = 0
  · have q8 : (f.skip == 0) = true := by simp; exact z8
    have Z8 := Lib.hid z8
    clear z8
    by_cases z9 : f.red = 0
    · have q9 : (f.red == 0) = true := by simp; exact z9
      have Z9 := Lib.hid z9
      clear z9
      cases sk
      · cases rd
        · go_enter Tryz.func173, Tryz.ntmps173
          go_wp2_with (fail)
          refine (fcheck f HT.out.2.1 _ HT.out.1).mono ?_
          rintro e W1 ⟨rfl, h1⟩
          have H1 := Lib.hid h1
          clear h1
          go_wp2_with (fail)
          go_ret
          exact ⟨by rw [HC.out (by simp [Z8.out, Z9.out])] <;> rfl, H1.out⟩
        · go_enter Tryz.func173, Tryz.ntmps173
          go_wp2_with (fail)
          go_ret
          exact ⟨by rw [H2.out (by simp [Z8.out, Z9.out])] <;> rfl, Below.refl _ _⟩
      · go_enter Tryz.func173, Tryz.ntmps173
        go_wp2_with (fail)
        go_ret
        exact ⟨by rw [H2.out (by simp [Z8.out, Z9.out])] <;> rfl, Below.refl _ _⟩
    · have q9 : (f.red == 0) = false := by simp; exact z9
      have Z9 := Lib.hid z9
      clear z9
      cases sk
      · cases rd
        all_goals
          go_enter Tryz.func173, Tryz.ntmps173
          go_wp2_with (fail)
          refine (fcheck f HT.out.2.1 _ HT.out.1).mono ?_
          rintro e W1 ⟨rfl, h1⟩
          have H1 := Lib.hid h1
          clear h1
          go_wp2_with (fail)
          go_ret
          exact ⟨by rw [HC.out (by simp [Z8.out, Z9.out])] <;> rfl, H1.out⟩
      · go_enter Tryz.func173, Tryz.ntmps173
        go_wp2_with (fail)
        go_ret
        exact ⟨by rw [H2.out (by simp [Z8.out, Z9.out])] <;> rfl, Below.refl _ _⟩
  · have q8 : (f.skip == 0) = false := by simp; exact z8
    have Z8 := Lib.hid z8
    clear z8
    by_cases z9 : f.red = 0
    · have q9 : (f.red == 0) = true := by simp; exact z9
      have Z9 := Lib.hid z9
      clear z9
      cases rd
      · cases sk
        all_goals
          go_enter Tryz.func173, Tryz.ntmps173
          go_wp2_with (fail)
          refine (fcheck f HT.out.2.1 _ HT.out.1).mono ?_
          rintro e W1 ⟨rfl, h1⟩
          have H1 := Lib.hid h1
          clear h1
          go_wp2_with (fail)
          go_ret
          exact ⟨by rw [HC.out (by simp [Z8.out, Z9.out])] <;> rfl, H1.out⟩
      · cases sk
        all_goals
          go_enter Tryz.func173, Tryz.ntmps173
          go_wp2_with (fail)
          go_ret
          exact ⟨by rw [H2.out (by simp [Z8.out, Z9.out])] <;> rfl, Below.refl _ _⟩
    · have q9 : (f.red == 0) = false := by simp; exact z9
      have Z9 := Lib.hid z9
      clear z9
      cases rd <;> cases sk
      all_goals
        go_enter Tryz.func173, Tryz.ntmps173
        go_wp2_with (fail)
        refine (fcheck f HT.out.2.1 _ HT.out.1).mono ?_
        rintro e W1 ⟨rfl, h1⟩
        have H1 := Lib.hid h1
        clear h1
        go_wp2_with (fail)
        go_ret
        exact ⟨by rw [HC.out (by simp [Z8.out, Z9.out])] <;> rfl, H1.out⟩
end Go.Proofs.YthpcbaamkeiffaaGreatDoor
