/-
  The document's Parse, walked; no condition.
-/
import Derived.Test.YtllhcfgddcjfkaaDoorRlH
namespace Go.Proofs.YtllhcfgddcjfkaaDoor
open Go.RowKit
set_option linter.unusedVariables false
set_option linter.unusedSimpArgs false

/-- The first bytes of a line. -/
theorem byS_head {s : ByteArray} {k x : Nat} (hk : k ≤ s.size) (hx : x < k) : byS (s.extract 0 k) x = byS s x := by
  rw [byS_ext (by omega) hk, Nat.zero_add]
theorem head_size {s : ByteArray} {k : Nat} (hk : k ≤ s.size) : (s.extract 0 k).size = k := by rw [ext_len hk]; omega
theorem head_wrong {s : ByteArray} {k : Nat} (hk : k ≤ s.size) : wrongN (byS (s.extract 0 k)) (s.extract 0 k).size = min k (wrongN (byS s) s.size) := by
  rw [head_size hk, wrong_congr (fun x hx => byS_head hk hx), wrong_part hk]
theorem head_short {s : ByteArray} {k : Nat} (hk : k ≤ s.size) (hl : longS (byS s) s.size = 0) : spA (byS (s.extract 0 k)) (s.extract 0 k).size ≤ 16 ∧ lenB (byS (s.extract 0 k)) (s.extract 0 k).size ≤ 1024 := by
  have e := (longS_congr (fun x hx => byS_head (s := s) hk hx)).1.trans (long_less hk hl).1
  rw [head_size hk]
  rcases longS_cases (byS (s.extract 0 k)) k with ⟨_, _, h1, h2, _⟩ | ⟨h, _⟩ | ⟨h, _⟩
  · exact ⟨h1, h2⟩
  · rw [e] at h; cases h
  · rw [e] at h; cases h

def RpRel (s : ByteArray) (w : World) (k : Value) (wr : World) : Prop :=
  ∃ j : Nat, j ≤ s.size ∧ j ≤ wrongN (byS s) s.size ∧ k = .int .i64 (j : Int) ∧ Blk wr w.heap.size 29 #[.string ⟨#[]⟩, .string ⟨#[]⟩] ∧ Below w.heap.size w wr

set_option maxRecDepth 100000 in
set_option maxHeartbeats 8000000 in
theorem rparse (s : ByteArray) (hs : s.size ≤ 1000000) (w : World) :
    Calls Tryd.prog 17 #[.string s] w fun e W' => e = .returned (parV s) ∧ Below w.heap.size w W' := by
  have z0 := gr_alloc (Below.refl w.heap.size w) (.cells #[.string ⟨#[]⟩, .string ⟨#[]⟩] 29)
  have b0 := Blk.new w 29 #[.string ⟨#[]⟩, .string ⟨#[]⟩]
  have HZ := Lib.hid (And.intro b0 z0)
  clear z0 b0
  go_enter Tryd.func17, Tryd.ntmps17
  go_wp2_with (fail)
  refine (rlong s hs _).mono ?_
  rintro e W1 ⟨rfl, h1⟩
  have y0 := HZ.out.1.call h1
  have H1 := Lib.hid (And.intro y0 (gr_call HZ.out.2 h1))
  obtain ⟨L, hL⟩ : ∃ L, L = longS (byS s) s.size := ⟨_, rfl⟩
  rw [← hL]
  have HL := Lib.hid hL
  clear hL h1
  by_cases hz : L = 0
  · have HLZ := Lib.hid (HL.out.symm.trans hz)
    subst hz
    clear y0
    go_wp2_with (fail)
    go_loopw [7] (fun k wr => RpRel s w k wr) (fun k _ => s.size - (intOf k).toNat)
    case atStart => exact ⟨0, by omega, by omega, rfl, H1.out⟩
    case round =>
      obtain ⟨j, hj, hjw, rfl, hblk, hbel⟩ := hrel
      have HB := Lib.hid (And.intro hblk hbel)
      clear hblk hbel
      by_cases hlt : j < s.size
      · have hsh := head_short (s := s) (k := j + 1) (by omega) HLZ.out
        have hwr := head_wrong (s := s) (k := j + 1) (by omega)
        have hsz := head_size (s := s) (k := j + 1) (by omega)
        have hwl : wrongN (byS s) s.size ≤ s.size := firstN_le _ _
        have HS := Lib.hid (And.intro hsh (And.intro hwr (And.intro hsz hwl)))
        clear hsh hwr hsz hwl
        go_wp2_with (fail)
        refine (rbegins (s.extract 0 (j + 1)) (by rw [HS.out.2.2.1]; omega) HS.out.1.1 HS.out.1.2 _).mono ?_
        rintro e W2 ⟨rfl, h2⟩
        rw [HS.out.2.1, HS.out.2.2.1]
        have y := HB.out.1.call h2
        have H2 := Lib.hid (gr_call HB.out.2 h2)
        clear h2
        by_cases hw : j < wrongN (byS s) s.size
        · rw [decide_eq_true (by omega)]
          have HW := Lib.hid (And.intro hw y)
          clear hw hjw y
          go_wp2_with (fail)
          exact ⟨⟨j + 1, by omega, HW.out.1, by go_num, HW.out.2, H2.out⟩, by simp [intOf]; omega⟩
        · rw [decide_eq_false (by omega)]
          have e : wrongN (byS s) s.size = j := by omega
          have HW := Lib.hid e
          have a0 := y.cell' (i := 0) rfl
          have a1 := y.cell' (i := 1) rfl
          have f0 := y.frozen 0
          have f1 := y.frozen 1
          have l0 := y.lt
          clear hw hjw y e
          go_wp2_with (fail)
          refine bodyPost_ret (v := .tuple #[.agg #[.string ⟨#[]⟩, .string ⟨#[]⟩], .int .i64 400, .int .i64 (j : Int)]) (by simp [results, Tryd.results17, go_sem, a0, a1, l0]) rfl ⟨by rw [parV_wrong HLZ.out (by rw [HW.out]; exact hlt), HW.out], ?_⟩
          exact gr_set (gr_set H2.out (by simp) _) (by simp) _
      · have hwl : wrongN (byS s) s.size ≤ s.size := firstN_le _ _
        have e : wrongN (byS s) s.size = s.size := by omega
        have HW := Lib.hid e
        have hvf := ver_full e
        have hvb := ver_beq (pC s)
        have hej : j = s.size := by omega
        clear hwl e hjw
        go_wp2_with (fail)
        refine (rparts s hs _).mono ?_
        rintro e W2 ⟨rfl, h2⟩
        have y := HB.out.1.call h2
        have a0 := y.cell' (i := 0) rfl
        have a1 := y.cell' (i := 1) rfl
        have f0 := y.frozen 0
        have f1 := y.frozen 1
        have l0 := y.lt
        have H2 := Lib.hid (gr_call HB.out.2 h2)
        clear h2 y
        by_cases h8 : lenC (byS s) s.size = 8
        · have H8 := Lib.hid h8
          rw [hvf.2 h8]
          have hvb2 : (verE.toList == [72, 84, 84, 80, 47, 49, 46, 49]) = true := by rw [ver_beq]; exact decide_eq_true rfl
          clear hvb hvf h8
          go_wp2_with (fail)
          refine bodyPost_ret (v := .tuple #[.agg #[.string (pA s), .string (pB s)], .int .i64 0, .int .i64 (s.size : Int)]) (by simp [results, Tryd.results17, go_sem, a0, a1, l0]) rfl ⟨by rw [parV_ok HLZ.out HW.out H8.out], ?_⟩
          exact gr_set (gr_set H2.out (by simp) _) (by simp) _
        · have H8 := Lib.hid h8
          rw [decide_eq_false (fun h => h8 (hvf.1 h))] at hvb
          clear hvf h8
          go_wp2_with (fail)
          refine bodyPost_ret (v := .tuple #[.agg #[.string ⟨#[]⟩, .string ⟨#[]⟩], .int .i64 400, .int .i64 (s.size : Int)]) (by simp [results, Tryd.results17, go_sem, a0, a1, l0]) rfl ⟨by rw [parV_short HLZ.out HW.out H8.out], ?_⟩
          exact gr_set (gr_set H2.out (by simp) _) (by simp) _
  · have q : (L != 0) = true := by simp; exact hz
    have HLZ := Lib.hid hz
    have a0 := y0.cell' (i := 0) rfl
    have a1 := y0.cell' (i := 1) rfl
    have f0 := y0.frozen 0
    have f1 := y0.frozen 1
    have l0 := y0.lt
    clear hz y0
    go_wp2_with (fail)
    refine bodyPost_ret (v := .tuple #[.agg #[.string ⟨#[]⟩, .string ⟨#[]⟩], .int .i64 L, .int .i64 (longP (byS s) s.size : Int)]) (by simp [results, Tryd.results17, go_sem, a0, a1, l0]) rfl ⟨by rw [parV_long (by rw [← HL.out]; exact HLZ.out), HL.out], ?_⟩
    exact gr_set (gr_set H1.out.2 (by simp) _) (by simp) _
end Go.Proofs.YtllhcfgddcjfkaaDoor
