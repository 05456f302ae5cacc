/-
  The law's own letters, walked; lines with many letters, plain; no condition.
-/
import Derived.Test.YtllhcfgddcjfkaaDoorRlK
import Derived.Deep.OwnRows
import Derived.Laws.IdiomStrings
namespace Go.Proofs.YtllhcfgddcjfkaaDoor
open Go.RowKit
set_option linter.unusedVariables false
set_option linter.unusedSimpArgs false

def letL (n : Nat) : List UInt8 := List.replicate n 97
def letE (n : Nat) : ByteArray := ⟨(letL n).toArray⟩
theorem letE_size (n : Nat) : (letE n).size = n := by
  show (letL n).toArray.size = n
  simp [letL]
theorem letE_byte {n x : Nat} (h : x < n) : byS (letE n) x = 97 := by
  show ((letL n).toArray.toList.getD x 0).toNat = 97
  simp [letL, List.getD_eq_getElem?_getD, List.getElem?_replicate, h]
/-- The cells of which the first so many are letters. -/
def lc (n j : Nat) : Array Value := ((List.range n).map fun k => Value.int .u8 (if k < j then 97 else 0)).toArray
theorem lc_size (n j : Nat) : (lc n j).size = n := by simp [lc]
theorem lc_at {n j k : Nat} (hk : k < n) : (lc n j)[k]? = some (.int .u8 (if k < j then 97 else 0)) := by simp [lc, hk]
theorem lc_made (n : Nat) : madeCells #[.int .u8 0] n = lc n 0 := by
  apply Array.ext_getElem?
  intro k
  by_cases hk : k < n
  · rw [lc_at hk]; simp [madeCells, hk, Nat.mod_one]
  · rw [Array.getElem?_eq_none (by rw [size_madeCells]; omega), Array.getElem?_eq_none (by rw [lc_size]; omega)]
theorem lc_set {n j : Nat} (h : j < n) : (lc n j).setIfInBounds j (.int .u8 97) = lc n (j + 1) := by
  apply Array.ext_getElem?
  intro k
  rw [Array.getElem?_setIfInBounds]
  by_cases e : j = k
  · subst e
    rw [if_pos rfl, if_pos (by rw [lc_size]; exact h), lc_at h, if_pos (by omega)]
  · rw [if_neg e]
    by_cases hk : k < n
    · rw [lc_at hk, lc_at hk]
      by_cases h1 : k < j
      · rw [if_pos h1, if_pos (by omega)]
      · rw [if_neg h1, if_neg (by omega)]
    · rw [Array.getElem?_eq_none (by rw [lc_size]; omega), Array.getElem?_eq_none (by rw [lc_size]; omega)]
theorem infoU8 : (Tryd.prog.info? 5).map (fun i => (i.zero, i.size, i.bytes)) = some (some (.int .u8 0), 1, 1) := by kernel_rfl
def LetRel (n : Nat) (w : World) (k : Value) (wr : World) : Prop := ∃ j : Nat, j ≤ n ∧ k = .int .i64 (j : Int) ∧ Blk wr w.heap.size 5 (lc n j) ∧ Below w.heap.size w wr

set_option maxRecDepth 100000 in
set_option maxHeartbeats 4000000 in
theorem bletters (n : Nat) (z : Int) (hz : z = (n : Int)) (hn : n ≤ 1000000) (h0 : 0 < n) (w : World) :
    Calls Tryd.prog 19 #[.int .i64 z] w fun e W' => e = .returned (.string (letE n)) ∧ Below w.heap.size w W' := by
  subst hz
  have hmk := fun W => run_make_row' 56 5 (.int .u8 0) 1 Tryd.underlying56 infoU8 rfl .i64 .i64 n (by omega) (by omega) W
  simp only [lc_made] at hmk
  have z0 := gr_alloc (Below.refl w.heap.size w) (.cells (lc n 0) 5)
  have b0 := Blk.new w 5 (lc n 0)
  have HZ := Lib.hid (And.intro b0 z0)
  clear z0 b0
  go_enter Tryd.func19, Tryd.ntmps19
  go_wp2_with (fail)
  clear hmk
  go_loopw [4] (fun k wr => LetRel n w k wr) (fun k _ => n - (intOf k).toNat)
  case atStart => exact ⟨0, by omega, rfl, HZ.out.1, HZ.out.2⟩
  case round =>
    obtain ⟨j, hj, rfl, hblk, hbel⟩ := hrel
    have HB := Lib.hid (And.intro hblk hbel)
    by_cases hlt : j < n
    · have hc := hblk.cell' (i := j) (lc_at hlt)
      have hf := hblk.frozen j
      have hl := hblk.lt
      clear hblk hbel
      go_wp2_with (fail)
      refine ⟨⟨j + 1, by omega, by go_num, ?_, ?_⟩, by simp [intOf]; omega⟩
      · have := HB.out.1.set_ j (.int .u8 97)
        rw [lc_set hlt] at this
        exact this
      · exact gr_set HB.out.2 (by simp) _
    · obtain rfl : j = n := by omega
      have hcv := run_convert_bytes_back (P := Tryd.prog) wr 56 9 5 ⟨w.heap.size, 0, none⟩ j (letL j) Tryd.underlying56 Tryd.underlying5 Tryd.underlying9 (fun k hk => by
        have hk' : k < j := by simpa [letL] using hk
        rw [Addr.add_lit, Nat.zero_add, hblk.cell' (lc_at hk'), if_pos hk']
        simp [letL])
      have hll : (letL j).length = j := by simp [letL]
      rw [hll] at hcv
      have hcv2 : (convert 56 9 (.slice (some ⟨w.heap.size, 0, none⟩) j j)).run Tryd.prog wr = .ok (.string (letE j)) wr := hcv
      clear hblk hbel hcv
      go_wp2_with (fail)
      go_ret
      exact ⟨rfl, HB.out.2⟩

/-- Where the spaces of a text lie. -/
theorem text_sp {m t : ByteArray} (h2 : isT m = true) (hb : ∀ x, x < t.size → chrB (byS t x) = true) : spA (byS (textL m t)) (textL m t).size = m.size ∧ spB (byS (textL m t)) (textL m t).size = m.size + 1 + t.size := by
  rw [isT_iff] at h2
  have hsz := text_size m t
  have ea : spA (byS (textL m t)) (textL m t).size = m.size := by
    refine firstN_is (by omega) (fun x hx => ?_) (fun _ => decide_eq_true (text_a m t))
    exact decide_eq_false (by rw [text_m hx]; exact tok_32 (h2.2 x hx))
  refine ⟨ea, firstN_is (by omega) (fun x hx => ?_) (fun _ => ?_)⟩
  · rw [ea]
    by_cases hxm : m.size < x
    · obtain ⟨y, rfl⟩ : ∃ y, x = m.size + 1 + y := ⟨x - (m.size + 1), by omega⟩
      rw [text_t (by omega), decide_eq_false (chr_32 (hb y (by omega))), Bool.and_false]
    · rw [decide_eq_false hxm, Bool.false_and]
  · rw [ea, text_b, decide_eq_true (by omega), decide_eq_true rfl]; rfl
/-- A slash and letters. -/
def tgtL (n : Nat) : ByteArray := ⟨#[47]⟩ ++ letE n
theorem tgtL_size (n : Nat) : (tgtL n).size = n + 1 := by
  unfold tgtL; rw [ByteArray.size_append, letE_size]; show 1 + n = n + 1; omega
theorem tgtL_zero (n : Nat) : byS (tgtL n) 0 = 47 := by
  unfold tgtL; rw [byS_left (by decide)]; rfl
theorem tgtL_byte {n x : Nat} (h : x < n + 1) (hx : x ≠ 0) : byS (tgtL n) x = 97 := by
  unfold tgtL; rw [byS_right (a := ⟨#[47]⟩) (x := x - 1) (by show x = 1 + (x - 1); omega)]
  exact letE_byte (by omega)
theorem tgtL_chr {n x : Nat} (h : x < (tgtL n).size) : chrB (byS (tgtL n) x) = true := by
  rw [tgtL_size] at h
  by_cases e : x = 0
  · rw [e, tgtL_zero]; rfl
  · rw [tgtL_byte h e]; rfl
theorem tgtL_at (n : Nat) : atB (tgtL n) = (tgtL n).size := firstN_none fun x hx => by
  have h := tgtL_chr hx
  rw [tgtL_size] at hx
  rw [h]
  by_cases e : x = 0
  · rw [e, tgtL_zero]; rfl
  · rw [decide_eq_false e]; rfl
/-- The law's line with so many letters is a text. -/
theorem line_is (n : Nat) : (⟨#[71, 69, 84, 32, 47]⟩ : ByteArray) ++ letE n ++ ⟨#[32, 72, 84, 84, 80, 47, 49, 46, 49]⟩ = textL getE (tgtL n) := by
  apply str_ext
  unfold textL tgtL
  simp [getE, spE, verE]
theorem text_414 {m t : ByteArray} (h2 : isT m = true) (hb : ∀ x, x < t.size → chrB (byS t x) = true) (h16 : m.size ≤ 16) (h1k : 1024 < t.size) : parS (byS (textL m t)) (textL m t).size = 414 ∧ parP (byS (textL m t)) (textL m t).size = m.size + 1 + 1024 := by
  obtain ⟨ea, eb⟩ := text_sp h2 hb
  have hlb : lenB (byS (textL m t)) (textL m t).size = t.size := by unfold lenB; rw [ea, eb]; omega
  have hl : longS (byS (textL m t)) (textL m t).size = 414 := by unfold longS; rw [ea, hlb, if_neg (by omega), if_pos h1k]
  have hp : longP (byS (textL m t)) (textL m t).size = m.size + 1 + 1024 := by unfold longP; rw [ea, hlb, if_neg (by omega), if_pos h1k]
  unfold parS parP
  rw [if_pos (by rw [hl]; decide), if_pos (by rw [hl]; decide), hl, hp]
  exact ⟨rfl, rfl⟩
theorem line_414 : parS (byS (textL getE (tgtL 1024))) (textL getE (tgtL 1024)).size = 414 ∧ (parP (byS (textL getE (tgtL 1024))) (textL getE (tgtL 1024)).size : Int) = 1028 := by
  have hg : getE.size = 3 := rfl
  obtain ⟨h1, h2⟩ := text_414 (m := getE) (t := tgtL 1024) (by decide +kernel) (fun x hx => tgtL_chr hx) (by rw [hg]; decide) (by rw [tgtL_size]; omega)
  exact ⟨h1, by rw [h2, hg]; rfl⟩
theorem line_ok : parS (byS (textL getE (tgtL 1023))) (textL getE (tgtL 1023)).size = 0 ∧ (parP (byS (textL getE (tgtL 1023))) (textL getE (tgtL 1023)).size : Int) = 1037 := by
  have h := txt_is (m := getE) (t := tgtL 1023) (by decide) (by decide +kernel) (by rw [tgtL_size]; omega) (by rw [tgtL_size]; omega) (tgtL_at _)
  obtain ⟨_, _, h3⟩ := text_back h
  refine ⟨h3, ?_⟩
  rw [parP_zero h3, text_size, tgtL_size]
  rfl
end Go.Proofs.YtllhcfgddcjfkaaDoor
