/-
  The code's Parse, Target, Text and Known, walked; condition for Parse: a variable of the library is an int.
-/
import Derived.Test.YtllhcfgddcjfkaaDoorRlW
import Derived.Test.YtllhcfgddcjfkaaDoorRlB
import Derived.Test.YtllhcfgddcjfkaaDoorRlT
namespace Go.Proofs.YtllhcfgddcjfkaaDoor
open Go.RowKit
set_option linter.unusedVariables false
set_option linter.unusedSimpArgs false

theorem ver_beq (s : ByteArray) : (s.toList == [72, 84, 84, 80, 47, 49, 46, 49]) = decide (s = verE) := by
  rw [← str_beq s verE, Lib.toList_data verE]
  rfl
/-- What Parse reads. -/
def parA (s : ByteArray) : ByteArray := if parS (byS s) s.size = 0 then pA s else ⟨#[]⟩
def parB (s : ByteArray) : ByteArray := if parS (byS s) s.size = 0 then pB s else ⟨#[]⟩
def parV (s : ByteArray) : Value := .tuple #[.agg #[.string (parA s), .string (parB s)], .int .i64 (parS (byS s) s.size), .int .i64 (parP (byS s) s.size : Int)]
theorem parV_long {s : ByteArray} (h : longS (byS s) s.size ≠ 0) : parV s = .tuple #[.agg #[.string ⟨#[]⟩, .string ⟨#[]⟩], .int .i64 (longS (byS s) s.size), .int .i64 (longP (byS s) s.size : Int)] := by
  have e : parS (byS s) s.size = longS (byS s) s.size := by unfold parS; rw [if_pos h]
  unfold parV parA parB parP
  rw [e, if_neg h, if_neg h, if_pos h]
theorem parV_wrong {s : ByteArray} (h : longS (byS s) s.size = 0) (h2 : wrongN (byS s) s.size < s.size) : parV s = .tuple #[.agg #[.string ⟨#[]⟩, .string ⟨#[]⟩], .int .i64 400, .int .i64 (wrongN (byS s) s.size : Int)] := by
  have h' : ¬ longS (byS s) s.size ≠ 0 := by rw [h]; decide
  have e : parS (byS s) s.size = 400 := by unfold parS; rw [if_neg h', if_pos h2]
  unfold parV parA parB parP
  rw [e, if_neg (by decide), if_neg (by decide), if_neg h']
theorem parV_short {s : ByteArray} (h : longS (byS s) s.size = 0) (h2 : wrongN (byS s) s.size = s.size) (h3 : lenC (byS s) s.size ≠ 8) : parV s = .tuple #[.agg #[.string ⟨#[]⟩, .string ⟨#[]⟩], .int .i64 400, .int .i64 (s.size : Int)] := by
  have h' : ¬ longS (byS s) s.size ≠ 0 := by rw [h]; decide
  have e : parS (byS s) s.size = 400 := by unfold parS; rw [if_neg h', if_neg (by omega), if_neg h3]
  unfold parV parA parB parP
  rw [e, if_neg (by decide), if_neg (by decide), if_neg h', h2]
theorem parV_ok {s : ByteArray} (h : longS (byS s) s.size = 0) (h2 : wrongN (byS s) s.size = s.size) (h3 : lenC (byS s) s.size = 8) : parV s = .tuple #[.agg #[.string (pA s), .string (pB s)], .int .i64 0, .int .i64 (s.size : Int)] := by
  have h' : ¬ longS (byS s) s.size ≠ 0 := by rw [h]; decide
  have e : parS (byS s) s.size = 0 := by unfold parS; rw [if_neg h', if_neg (by omega), if_pos h3]
  unfold parV parA parB parP
  rw [e, if_pos rfl, if_pos rfl, if_neg h', h2]
/-- A line without fault has the version if its last part is as long. -/
theorem ver_full {s : ByteArray} (h2 : wrongN (byS s) s.size = s.size) : pC s = verE ↔ lenC (byS s) s.size = 8 := by
  constructor
  · intro h
    rw [← pC_size, h]; rfl
  · intro h
    have hB : spB (byS s) s.size < s.size := by unfold lenC at h; omega
    exact (ver_is (wrong_full h2 hB).2.2.2.2).2 (by rw [pC_size, h])

set_option maxRecDepth 100000 in
set_option maxHeartbeats 4000000 in
theorem bparse (s : ByteArray) (hs : s.size ≤ 1000000) (w : World) (hm : MaxOk w) :
    Calls Tryd.prog 16 #[.string s] w fun e W' => e = .returned (parV s) ∧ Below w.heap.size w W' := by
  have z0 := gr_alloc (Below.refl w.heap.size w) (.cells #[.string ⟨#[]⟩, .string ⟨#[]⟩] 29)
  have b0 := Blk.new w 29 #[.string ⟨#[]⟩, .string ⟨#[]⟩]
  have HZ := Lib.hid (And.intro b0 z0)
  have HM := Lib.hid (hm.below z0)
  clear z0 b0 hm
  go_enter Tryd.func16, Tryd.ntmps16
  go_wp2_with (fail)
  refine (blong s hs _ HM.out).mono ?_
  rintro e W1 ⟨rfl, h1⟩
  have y0 := HZ.out.1.call h1
  have a0 := y0.cell' (i := 0) rfl
  have a1 := y0.cell' (i := 1) rfl
  have f0 := y0.frozen 0
  have f1 := y0.frozen 1
  have l0 := y0.lt
  have H1 := Lib.hid (And.intro y0 (And.intro (gr_call HZ.out.2 h1) (HM.out.below h1)))
  clear y0 h1
  obtain ⟨L, hL⟩ : ∃ L, L = longS (byS s) s.size := ⟨_, rfl⟩
  rw [← hL]
  have HL := Lib.hid hL
  clear hL
  by_cases hz : L = 0
  · have HLZ := Lib.hid (HL.out.symm.trans hz)
    subst hz
    go_wp2_with (fail)
    refine (bread s hs _ H1.out.2.2).mono ?_
    rintro e W2 ⟨rfl, h2⟩
    have y1 := (H1.out.1.call h2).alloc (.cells #[.string (pA s), .string (pB s), .string (pC s), .int .i64 (partN (byS s) s.size : Int)] 54)
    have z1 := gr_alloc (gr_call H1.out.2.1 h2) (.cells #[.string (pA s), .string (pB s), .string (pC s), .int .i64 (partN (byS s) s.size : Int)] 54)
    have b5 := Blk.new W2 54 #[.string (pA s), .string (pB s), .string (pC s), .int .i64 (partN (byS s) s.size : Int)]
    clear a0 a1 f0 f1 l0
    have x0 := b5.cell' (i := 0) rfl
    have x1 := b5.cell' (i := 1) rfl
    have x2 := b5.cell' (i := 2) rfl
    have x3 := b5.cell' (i := 3) rfl
    have xl := b5.lt
    have H2 := Lib.hid (And.intro y1 (And.intro b5 z1))
    clear y1 z1 b5 h2
    go_wp2_with (fail)
    refine (bwrong s hs _).mono ?_
    rintro e W3 ⟨rfl, h3⟩
    have y0 := H2.out.1.call h3
    have y5 := H2.out.2.1.call h3
    have a0 := y0.cell' (i := 0) rfl
    have a1 := y0.cell' (i := 1) rfl
    have f0 := y0.frozen 0
    have f1 := y0.frozen 1
    have l0 := y0.lt
    clear x0 x1 x2 x3 xl
    have x0 := y5.cell' (i := 0) rfl
    have x1 := y5.cell' (i := 1) rfl
    have x2 := y5.cell' (i := 2) rfl
    have x3 := y5.cell' (i := 3) rfl
    have xl := y5.lt
    have H3 := Lib.hid (gr_call H2.out.2.2 h3)
    clear y0 y5 h3
    have hwn : wrongN (byS s) s.size ≤ s.size := firstN_le _ _
    have hvf := ver_full (s := s)
    have hp3 := partN_3 (G := byS s) (n := s.size)
    have hpw := partN_ways (byS s) s.size
    have hC8 : lenC (byS s) s.size = 8 → spB (byS s) s.size < s.size := fun h => by unfold lenC at h; omega
    obtain ⟨r, hr⟩ : ∃ r, r = wrongN (byS s) s.size := ⟨_, rfl⟩
    obtain ⟨R, hR⟩ : ∃ R, R = wrongI (byS s) s.size := ⟨_, rfl⟩
    obtain ⟨N, hN⟩ : ∃ N, N = (partN (byS s) s.size : Int) := ⟨_, rfl⟩
    have hRe : R = if r < s.size then (r : Int) else -1 := by rw [hR, hr]; rfl
    rw [← hR]
    rw [← hN] at x3 H2 ⊢
    have HR := Lib.hid hr
    by_cases hlt : r < s.size
    · rw [if_pos hlt] at hRe
      have HLT := Lib.hid hlt
      clear hlt hvf hp3 hpw hC8 hr hR hN hwn
      subst hRe
      go_wp2_with (fail)
      refine bodyPost_ret (v := .tuple #[.agg #[.string ⟨#[]⟩, .string ⟨#[]⟩], .int .i64 400, .int .i64 (r : Int)]) (by simp [results, Tryd.results16, go_sem, a0, a1, l0]) rfl ⟨by rw [parV_wrong HLZ.out (by rw [← HR.out]; exact HLT.out), HR.out], ?_⟩
      exact gr_set (gr_set H3.out (by simp) _) (by simp) _
    · rw [if_neg hlt] at hRe
      have hfull : wrongN (byS s) s.size = s.size := by omega
      have HF := Lib.hid hfull
      have hvb := ver_beq (pC s)
      by_cases h8 : lenC (byS s) s.size = 8
      · have e3 : N = 3 := by have := hp3.2 (hC8 h8); omega
        rw [(hvf hfull).2 h8, decide_eq_true rfl] at hvb
        rw [(hvf hfull).2 h8] at x2 H2 ⊢
        have H8 := Lib.hid h8
        have hvb2 : (verE.toList == [72, 84, 84, 80, 47, 49, 46, 49]) = true := by rw [ver_beq]; exact decide_eq_true rfl
        clear hlt hvf hp3 hpw hC8 hr hR hN hwn hvb hfull h8
        subst hRe e3
        go_wp2_with (fail)
        refine bodyPost_ret (v := .tuple #[.agg #[.string (pA s), .string (pB s)], .int .i64 0, .int .i64 (s.size : Int)]) (by simp [results, Tryd.results16, go_sem, a0, a1, l0]) rfl ⟨by rw [parV_ok HLZ.out HF.out H8.out], ?_⟩
        exact gr_set (gr_set H3.out (by simp) _) (by simp) _
      · have H8 := Lib.hid h8
        by_cases hn3 : N < 3
        · clear hlt hvf hp3 hpw hC8 hr hR hN hwn hvb hfull h8
          subst hRe
          go_wp2_with (fail)
          refine bodyPost_ret (v := .tuple #[.agg #[.string ⟨#[]⟩, .string ⟨#[]⟩], .int .i64 400, .int .i64 (s.size : Int)]) (by simp [results, Tryd.results16, go_sem, a0, a1, l0]) rfl ⟨by rw [parV_short HLZ.out HF.out H8.out], ?_⟩
          exact gr_set (gr_set H3.out (by simp) _) (by simp) _
        · rw [decide_eq_false (fun h => h8 ((hvf hfull).1 h))] at hvb
          clear hlt hvf hp3 hpw hC8 hr hR hN hwn hfull h8
          subst hRe
          go_wp2_with (fail)
          refine bodyPost_ret (v := .tuple #[.agg #[.string ⟨#[]⟩, .string ⟨#[]⟩], .int .i64 400, .int .i64 (s.size : Int)]) (by simp [results, Tryd.results16, go_sem, a0, a1, l0]) rfl ⟨by rw [parV_short HLZ.out HF.out H8.out], ?_⟩
          exact gr_set (gr_set H3.out (by simp) _) (by simp) _
  · have q : (L != 0) = true := by simp; exact hz
    have HLZ := Lib.hid hz
    clear hz
    go_wp2_with (fail)
    refine bodyPost_ret (v := .tuple #[.agg #[.string ⟨#[]⟩, .string ⟨#[]⟩], .int .i64 L, .int .i64 (longP (byS s) s.size : Int)]) (by simp [results, Tryd.results16, go_sem, a0, a1, l0]) rfl ⟨by rw [parV_long (by rw [← HL.out]; exact HLZ.out), HL.out], ?_⟩
    exact gr_set (gr_set H1.out.2.1 (by simp) _) (by simp) _
end Go.Proofs.YtllhcfgddcjfkaaDoor
