/-
  The reference of percent, second part: Decode; condition: strings of at most 1000000000 bytes.
-/
import Derived.Test.YtfbkbnojbbpopaaDoorPctRefA
import Derived.Deep.RegionLaw
import Derived.Deep.AppendLies
namespace Go.Proofs.YtfbkbnojbbpopaaDoor
open Go.RowKit
set_option linter.unusedVariables false
set_option linter.unusedSimpArgs false

def RDecRel (s : ByteArray) (w0 : World) (n : Nat) (ov iv : Value) (wr : World) : Prop :=
  ∃ (l : List UInt8) (i k : Nat), n = s.size - i ∧ iv = .int .i64 (i : Int) ∧ ReadAt s l i k ∧ wr.ownsRow w0.heap.size 5 1 ov l.length (Lib.byteCells l) ∧
    Blk wr w0.heap.size 40 #[.int .i64 0, .int .i64 0] ∧ Below w0.heap.size w0 wr

set_option maxRecDepth 100000 in
set_option maxHeartbeats 1000000 in
theorem rdecode (s : ByteArray) (w : World) (hs : s.size ≤ 1000000000) :
    Calls Tryd.prog 44 #[.string s] w (DecPost s w) := by
  obtain ⟨i0, hi, hz0, hz1, hz2⟩ := info_parts infoByte
  go_enter Tryd.func44, Tryd.ntmps44
  go_wp2_with (fail)
  go_loopg [4, 5] s.size (fun n ov iv wr => RDecRel s w n ov iv wr)
  case atStart => exact ⟨[], 0, 0, rfl, rfl, readAt_start s, World.ownsRow_nil _ _ _ _, Blk.new _ _ _, (Below.refl _ _).alloc (Nat.le_refl _) _⟩
  case round =>
    obtain ⟨l, i, k, hn, rfl, hat, hown, hflt, hbel⟩ := hrel
    obtain ⟨va, vc, rfl⟩ := own_slice hown
    have d0 := hflt.cell' (i := 0) (v := .int .i64 0) rfl
    have d1 := hflt.cell' (i := 1) (v := .int .i64 0) rfl
    have f0 := hflt.frozen 0
    have f1 := hflt.frozen 1
    have hfz := hflt.lt
    have hlb := hat.2.2.2.2.1
    by_cases hlt : i < s.size
    · by_cases hc : s[i] = 37
      · cases hes : escL (s.data.toList.drop i)
        · have hsc : scan (s.data.toList.drop i) = ([], 0, 0) := by rw [drop_at s i hlt, hc] at hes ⊢; exact scan_bad _ hes
          have hre := readAt_end hat hsc
          have ho : ¬ okS s := by unfold okS; omega
          have A := Lib.hid (And.intro hre (And.intro ho (And.intro hbel hes)))
          have hi0 : (0 : Int) ≤ i := by omega
          clear hn hat hown hflt hbel hre ho hsc hes
          go_wp2_with (go_at_call 61; refine (rescape_no s i _ hs (by omega) A.out.2.2.2).mono ?_; rintro e w' ⟨rfl, rfl⟩)
          refine bodyPost_ret (v := .tuple #[.string ⟨#[]⟩, .agg #[.int .i64 3, .int .i64 (i : Int)]]) (by simp [results, Tryd.results44, go_sem, d0, d1]) rfl ?_
          obtain ⟨hre, ho, hbel, hes⟩ := A.out
          obtain ⟨e1, e2, e3, e4⟩ := rNo ho
          exact ⟨by rw [e3, e1, e2, ← hre.2.1], (hbel.setCell (by simp) _).setCell (by simp) _⟩
        · obtain ⟨b, c, u, hl, hb, hc'⟩ : ∃ b c u, s.data.toList.drop i = 37 :: b :: c :: u ∧ 0 ≤ hexv b ∧ 0 ≤ hexv c := by
            rcases four (s.data.toList.drop i) with h | ⟨a, t, h, ha⟩ | h | ⟨t, h, he⟩
            · rw [h] at hes; simp [escL] at hes
            · rw [drop_at s i hlt, hc] at h; exact absurd (List.cons.inj h).1.symm ha
            · exact h
            · rw [h, he] at hes; cases hes
          obtain ⟨h3, hra⟩ := readAt_esc hat hlt hl hb hc'
          obtain ⟨h3', e0, e1, e2⟩ := three_at s i _ _ _ _ hl
          have bb := hexv_bound b
          have bc := hexv_bound c
          have A := Lib.hid (And.intro hat (And.intro hown (And.intro hflt (And.intro hbel (And.intro hra hn)))))
          have HE := Lib.hid (And.intro hl (And.intro hb hc'))
          have hi2 : (i : Int) + 2 < s.size := by omega
          have hi1 : (i : Int) + 1 < s.size := by omega
          have hi0 : (0 : Int) ≤ i := by omega
          clear hat hown hflt hbel hra hl hc hes hn
          go_wp2_with (go_at_call 61; refine (rescape_yes s i b c u _ hs HE.out.1 HE.out.2.1 HE.out.2.2).mono ?_; rintro e w' ⟨rfl, rfl⟩)
          have HO : ∀ o, (wr.alloc o).drew.ownsRow w.heap.size 5 1 (.slice va l.length vc) l.length (Lib.byteCells l) := fun o => (A.out.2.1.alloc o).drew
          have HN := Lib.hid HO
          have hL1 : Hid (l.length + 1 ≤ maxLen) := Lib.hid (by unfold maxLen; omega)
          clear HO
          have w1 : IntKind.i64.wrap ((i : Int) + 1) = (i : Int) + 1 := IntWalk.i64_in _ (by omega)
          have w2 : IntKind.i64.wrap ((i : Int) + 2) = (i : Int) + 2 := IntWalk.i64_in _ (by omega)
          have w3 : IntKind.i64.wrap (16 * hexv b) = 16 * hexv b := IntWalk.i64_in _ (by omega)
          have w4 : IntKind.i64.wrap (16 * hexv b + hexv c) = 16 * hexv b + hexv c := IntWalk.i64_in _ (by omega)
          have w5 : (0 : Int) ≤ (i : Int) + 1 := by omega
          have w6 : (0 : Int) ≤ (i : Int) + 2 := by omega
          have w7 : ((i : Int) + 1).toNat = i + 1 := by omega
          have w8 : ((i : Int) + 2).toNat = i + 2 := by omega
          have w9 : IntKind.u8.wrap (16 * hexv b + hexv c) = 16 * hexv b + hexv c := by rw [IntKind.wrap_u8']; have := HE.out.2; omega
          go_region_law (first
            | (refine step_append_lies _ rfl (.tmp 25) (.tmp 39) 63 rfl w.heap.size 5 i0 (.int .u8 0) 1 1 Tryd.underlying63 hi hz0 hz1 hz2 rfl (by decide) (.slice va l.length vc) l.length (Lib.byteCells l) (by simp [Act.eval, Act.put]) (HN.out _) ⟨wr.heap.size, 0, none⟩ 1 1 [.int .u8 (16 * hexv b + hexv c)] (by simp [Act.eval, Act.put]) rfl (one_new (w := wr) rfl _ _) (one_int _ _) (by omega) hL1.out (by omega) (by simp; omega) (wr.heap.size + 1) (by simp) ?_
               intro gn cn W1 hown1 hgrow1 hlies1 hlt1)
            | (go_simp; go_at_call 62; refine (rvalue _ _).mono ?_; rintro e w' ⟨rfl, rfl⟩))
          all_goals
            clear w1 w2 w3 w4 w5 w6 w7 w8 w9
            have W := Lib.hid (And.intro hown1 hgrow1)
            clear hown1 hgrow1 hlies1
            go_wp2_with (go_at_call 60; refine (rstep_yes s i b c u _ hs HE.out.1 HE.out.2.1 HE.out.2.2).mono ?_; rintro e w' ⟨rfl, rfl⟩)
            go_roundg (s.size - (i + 3))
            case measure => have := A.out.2.2.2.2.2; omega
            case rel =>
              obtain ⟨hat, hown, hflt, hbel, hra, hn⟩ := A.out
              obtain ⟨hown1, hgrow1⟩ := W.out
              refine ⟨l ++ [escV b c], i + 3, k + 1, rfl, rfl, hra, ?_, ?_, ?_⟩
              · rw [Lib.byteCells_append, List.length_append]
                have e : [Value.int .u8 (16 * hexv b + hexv c)] = Lib.byteCells [escV b c] := by rw [← escV_int b c HE.out.2.1 HE.out.2.2]; rfl
                rw [← e]
                exact hown1
              · have ha := (hflt.alloc (.cells #[.int .u8 (16 * hexv b + hexv c)] 5)).drew
                exact ha.grown hgrow1 (own_blk_ne (HN.out _) ha (by decide))
              · exact ((hbel.alloc (by omega) (.cells #[.int .u8 (16 * hexv b + hexv c)] 5)).drew).grown hgrow1 (by simp; omega) (fun k hk => (hown.lt k hk).1)
      · have hes : escL (s.data.toList.drop i) = false := by
          rw [drop_at s i hlt]
          match s.data.toList.drop (i + 1) with
          | [] => rfl
          | [_] => rfl
          | _ :: _ :: _ => simp [escL, hc]
        have hra := readAt_plain hat hlt hc
        have hc37 : ((s[i].toNat : Int) == 37) = false := by simpa using fun e => hc (u8_ext (by simpa using e))
        have A := Lib.hid (And.intro hat (And.intro hown (And.intro hflt (And.intro hbel (And.intro hra (And.intro hn hes))))))
        have hi0 : (0 : Int) ≤ i := by omega
        clear hat hflt hbel hra hc hes hn
        go_wp2_with (first
          | (go_at_call 61; refine (rescape_no s i _ hs (by omega) A.out.2.2.2.2.2.2).mono ?_; rintro e w' ⟨rfl, rfl⟩)
          | (at_builtin; refine wpList_append_own _ rfl _ _ 63 rfl w.heap.size 5 i0 (.int .u8 0) 1 1 Tryd.underlying63 hi hz0 hz1 hz2 rfl (by decide) _ _ _ rfl (hown.alloc _) ⟨wr.heap.size, 0, none⟩ 1 1 [.int .u8 (s[i].toNat : Int)] rfl rfl ?c1 ?c2 ?c3 ?c4 ?c5 ?_))
        case c1 => exact one_new rfl _ _
        case c2 => exact one_int _ _
        case c3 => unfold maxLen; omega
        case c4 => omega
        case c5 => simp; omega
        intro v' w2 hown' hgrow _
        obtain ⟨vb, vd, rfl⟩ := own_slice hown'
        have W := Lib.hid (And.intro hown' (And.intro hgrow hown))
        clear hown' hgrow hown
        go_wp2_with (go_at_call 60; refine (rstep_no s i _ hs (by omega) A.out.2.2.2.2.2.2).mono ?_; rintro e w' ⟨rfl, rfl⟩)
        go_roundg (s.size - (i + 1))
        case measure => have := A.out.2.2.2.2.2.1; omega
        case rel =>
          obtain ⟨hat, hown, hflt, hbel, hra, hn, hes⟩ := A.out
          obtain ⟨hown1, hgrow1, _⟩ := W.out
          refine ⟨l ++ [s[i]], i + 1, k, rfl, rfl, hra, ?_, ?_, ?_⟩
          · rw [Lib.byteCells_append, List.length_append]; exact hown1
          · have ha := hflt.alloc (.cells #[.int .u8 (s[i].toNat : Int)] 5)
            exact ha.grown hgrow1 (own_blk_ne (hown.alloc _) ha (by decide))
          · exact (hbel.alloc (by omega) (.cells #[.int .u8 (s[i].toNat : Int)] 5)).grown hgrow1 (by simp; omega) (fun k hk => (hown.lt k hk).1)
    · have hke : i = s.size := by have := hat.1; omega
      have hd : s.data.toList.drop i = [] := drop_end s i (by omega)
      have hre := readAt_end hat (by rw [hd, scan_nil])
      have ho : okS s := by unfold okS; omega
      have hcv := run_own_string (P := Tryd.prog) (w := wr) (src := 63) (dst := 9) Tryd.underlying63 Tryd.underlying5 Tryd.underlying9 rfl hown
      have A := Lib.hid (And.intro hre (And.intro ho (And.intro hbel hflt)))
      clear hn hat hown hflt hbel hke hd hre ho
      go_wp2_with (fail)
      refine bodyPost_ret (v := .tuple #[.string ⟨l.toArray⟩, .agg #[.int .i64 0, .int .i64 0]]) (by simp [results, Tryd.results44, go_sem, d0, d1]) rfl ?_
      obtain ⟨hre, ho, hbel, hflt⟩ := A.out
      obtain ⟨e1, e2, e3, e4⟩ := rOk ho
      exact ⟨by rw [e3, e1, e2, ← hre.1], (hbel.setCell (by simp) _).setCell (by simp) _⟩
end Go.Proofs.YtfbkbnojbbpopaaDoor
