/-
  query's Literal and decode, walked; condition: strings of at most 1000000000 bytes.
-/
import Derived.Test.YtfbkbnojbbpopaaDoorQyB
namespace Go.Proofs.YtfbkbnojbbpopaaDoor
open Go.RowKit
set_option linter.unusedVariables false
set_option linter.unusedSimpArgs false

theorem c_ne {x : UInt8} {n : Nat} (h : x.toNat ≠ n) : ((x.toNat : Int) == (n : Int)) = false := beq_eq_false_iff_ne.2 (by omega)
theorem escL_no (s : ByteArray) (i : Nat) (hlt : i < s.size) (hc : s[i] ≠ 37) : escL (s.data.toList.drop i) = false := by
  rw [drop_at s i hlt]
  match s.data.toList.drop (i + 1) with
  | [] => rfl
  | [_] => rfl
  | _ :: _ :: _ => simp [escL, hc]
theorem escL_yes (s : ByteArray) (i : Nat) (hlt : i < s.size) (hc : s[i] = 37) (hes : escL (s.data.toList.drop i) = true) : ∃ b c u, s.data.toList.drop i = 37 :: b :: c :: u ∧ 0 ≤ hexv b ∧ 0 ≤ hexv c ∧ i + 3 ≤ s.size ∧ s.data.toList.drop (i + 3) = u := by
  rcases four (s.data.toList.drop i) with h | ⟨a, t, h, ha⟩ | h | ⟨t, h, he⟩
  · rw [h] at hes; simp [escL] at hes
  · rw [drop_at s i hlt, hc] at h; exact absurd (List.cons.inj h).1.symm ha
  · obtain ⟨b, c, u, hl, hb, hc'⟩ := h
    refine ⟨b, c, u, hl, hb, hc', ?_, ?_⟩
    · have := congrArg List.length hl
      simp only [List.length_drop, size_data, List.length_cons] at this
      omega
    · rw [← List.drop_drop, hl]; rfl
  · rw [h, he] at hes; cases hes

theorem un_drew {w W : World} (h : Below w.drew.heap.size w.drew W) : Below w.heap.size w W := ⟨h.os, h.tape, h.output, h.size, h.block⟩
theorem litC_no {x : UInt8} (h1 : stB x = false) (h2 : ¬ (x = 38 ∨ x = 61 ∨ x = 43 ∨ x = 59)) (h3 : x ≠ 37) : litC x = false := by
  unfold litC
  simp only [h1, Bool.false_or]
  simp only [not_or] at h2
  simp [h2.1, h2.2.1, h2.2.2.1, h2.2.2.2, h3]

set_option maxRecDepth 100000 in
set_option maxHeartbeats 4000000 in
theorem qliteral (s : ByteArray) (w : World) (hs : s.size ≤ 1000000000) :
    Calls Tryd.prog 21 #[.string s] w fun e w' => e = .returned (.int .i64 (litE s.data.toList)) ∧ Below w.heap.size w w' := by
  go_enter Tryd.func21, Tryd.ntmps21
  go_wp2_with (fail)
  go_step3
  go_wp2_with (fail)
  refine (qstay _).mono ?_
  rintro e W0 ⟨rfl, h0⟩
  have hX : w.heap.size ≤ W0.heap.size := h0.size
  have K0 := Lib.hid (And.intro (Blk.new W0 61 #[Value.int .u64 (setW stP 0 : Int), .int .u64 (setW stP 1 : Int), .int .u64 (setW stP 2 : Int), .int .u64 (setW stP 3 : Int)]) (gr_alloc h0 (.cells #[Value.int .u64 (setW stP 0 : Int), .int .u64 (setW stP 1 : Int), .int .u64 (setW stP 2 : Int), .int .u64 (setW stP 3 : Int)] 61)))
  clear h0
  generalize hst : stP = st at *
  have HS := Lib.hid hst
  clear hst
  go_wp2_with (fail)
  go_step3
  go_wp2_with (fail)
  go_loopw [4] (fun iv wr => ∃ k : Nat, k ≤ s.size ∧ iv = .int .i64 (k : Int) ∧ litB s.data.toList = litB (s.data.toList.drop k) ∧ Blk wr W0.heap.size 61 #[Value.int .u64 (setW st 0 : Int), .int .u64 (setW st 1 : Int), .int .u64 (setW st 2 : Int), .int .u64 (setW st 3 : Int)] ∧ Below w.heap.size w wr) (fun iv _ => s.size - (intOf iv).toNat)
  case atStart => exact ⟨0, Nat.zero_le _, rfl, rfl, K0.out.1, K0.out.2⟩
  case round =>
    obtain ⟨k, hk, rfl, hlit, hblk, hbel⟩ := hrel
    by_cases hlt : k < s.size
    · have a0 := hblk.cell' (i := 0) rfl
      have a1 := hblk.cell' (i := 1) rfl
      have a2 := hblk.cell' (i := 2) rfl
      have a3 := hblk.cell' (i := 3) rfl
      have hlX := hblk.lt
      obtain ⟨x, hx⟩ : ∃ x, x = s[k] := ⟨_, rfl⟩
      have hxs : s[k] = x := hx.symm
      have hxb := u8_bound x
      have hd := drop_at s k hlt
      rw [hxs] at hd
      have hii : (k : Int) < s.size := by omega
      have hi0 : (0 : Int) ≤ k := by omega
      have A := Lib.hid (And.intro hlit (And.intro hblk (And.intro hbel (And.intro hd hx))))
      clear hlit hblk hbel hd hx
      have fin : ∀ (W : World) (j : Nat), Below wr.heap.size wr W → j ≤ s.size → litB s.data.toList = litB (s.data.toList.drop j) → ∃ k' : Nat, k' ≤ s.size ∧ (Value.int .i64 (j : Int)) = .int .i64 (k' : Int) ∧ litB s.data.toList = litB (s.data.toList.drop k') ∧ Blk W W0.heap.size 61 #[Value.int .u64 (setW st 0 : Int), .int .u64 (setW st 1 : Int), .int .u64 (setW st 2 : Int), .int .u64 (setW st 3 : Int)] ∧ Below w.heap.size w W :=
        fun W j hb h2 h3 => ⟨j, h2, rfl, h3, A.out.2.1.call hb, gr_call A.out.2.2.1 hb⟩
      have FIN := Lib.hid fin
      clear fin
      have hcall := fun W => qhas x W
      rw [HS.out] at hcall
      have HC := Lib.hid hcall
      clear hcall
      cases hst' : stB x
      · have HB := Lib.hid hst'
        clear hst'
        by_cases h4 : x = 38 ∨ x = 61 ∨ x = 43 ∨ x = 59
        · have hl : litC x = true ∧ x ≠ 37 := by rcases h4 with rfl | rfl | rfl | rfl <;> decide
          have hn : litB s.data.toList = litB (s.data.toList.drop (k + 1)) := by rw [A.out.1, A.out.2.2.2.1, litB_plain hl.2 hl.1]
          have HN := Lib.hid hn
          clear hl hn
          rcases h4 with rfl | rfl | rfl | rfl
          all_goals
            go_wp2_with (fail)
            go_still_tail 5, (by kernel_rfl)
            change wpList _ _ _ _ _ wr.drew
            go_wp2_with (fail)
            refine (HC.out _).mono ?_
            rintro e W1 ⟨rfl, hb1⟩
            rw [HB.out]
            have HB2 := Lib.hid (un_drew hb1)
            clear hb1
            go_wp2_with (fail)
            go_roundw
            case rel => exact FIN.out _ (k + 1) HB2.out (by omega) HN.out
            case measure => simp [intOf]; omega
        · have n1 := c_ne (x := x) (n := 38) (fun e => h4 (.inl (UInt8.toNat.inj e)))
          have n2 := c_ne (x := x) (n := 61) (fun e => h4 (.inr (.inl (UInt8.toNat.inj e))))
          have n3 := c_ne (x := x) (n := 43) (fun e => h4 (.inr (.inr (.inl (UInt8.toNat.inj e)))))
          have n4 := c_ne (x := x) (n := 59) (fun e => h4 (.inr (.inr (.inr (UInt8.toNat.inj e)))))
          cases hes : escL (s.data.toList.drop k)
          · have hno : litB s.data.toList = false := by
              rw [A.out.1]
              by_cases h37 : x = 37
              · rw [A.out.2.2.2.1, h37] at hes ⊢
                exact litB_none hes
              · rw [A.out.2.2.2.1]
                exact litB_bad (litC_no HB.out h4 h37)
            have HE := Lib.hid (And.intro hes hno)
            clear hes hno h4
            go_wp2_with (fail)
            go_still_tail 5, (by kernel_rfl)
            change wpList _ _ _ _ _ wr.drew
            go_wp2_with (fail)
            refine (HC.out _).mono ?_
            rintro e W1 ⟨rfl, hb1⟩
            rw [HB.out]
            have HB2 := Lib.hid (un_drew hb1)
            clear hb1
            go_wp2_with (fail)
            refine (qescape_no s k _ hs hk HE.out.1).mono ?_
            rintro e W2 ⟨rfl, q, rfl⟩
            go_wp2_with (fail)
            rw [Exit.noGoto_ret]
            go_ret
            exact ⟨by unfold litE; rw [HE.out.2]; rfl, below_drewN (gr_call A.out.2.2.1 HB2.out) q⟩
          · have h37 : x = 37 := by
              by_cases h37 : x = 37
              · exact h37
              · rw [escL_no s k hlt (by rw [hxs]; exact h37)] at hes; cases hes
            obtain ⟨b, c, u, hl, hb, hc, h3, hu⟩ := escL_yes s k hlt (by rw [hxs]; exact h37) hes
            have hn : litB s.data.toList = litB (s.data.toList.drop (k + 3)) := by rw [A.out.1, hl, hu, litB_esc hb hc]
            have HE := Lib.hid (And.intro hl (And.intro hb (And.intro hc hn)))
            have h3' : (k : Int) + 2 < s.size := by omega
            clear hl hb hc hn hes hu h37 h4
            go_wp2_with (fail)
            go_still_tail 5, (by kernel_rfl)
            change wpList _ _ _ _ _ wr.drew
            go_wp2_with (fail)
            refine (HC.out _).mono ?_
            rintro e W1 ⟨rfl, hb1⟩
            rw [HB.out]
            have HB2 := Lib.hid (un_drew hb1)
            clear hb1
            go_wp2_with (fail)
            refine (qescape_yes s k b c u _ hs HE.out.1 HE.out.2.1 HE.out.2.2.1).mono ?_
            rintro e W2 ⟨rfl, q, rfl⟩
            go_wp2_with (fail)
            go_roundw
            case rel =>
              have := FIN.out (W1.drewN q) (k + 3) (below_drewN HB2.out q) (by omega) HE.out.2.2.2
              exact this
            case measure => simp [intOf]; omega
      · have hl : litC x = true ∧ x ≠ 37 := ⟨by unfold litC; rw [hst']; rfl, (st_pct x hst').1⟩
        have hn : litB s.data.toList = litB (s.data.toList.drop (k + 1)) := by rw [A.out.1, A.out.2.2.2.1, litB_plain hl.2 hl.1]
        have HN := Lib.hid (And.intro hn hst')
        clear hl hn hst'
        go_wp2_with (fail)
        go_still_tail 5, (by kernel_rfl)
        change wpList _ _ _ _ _ wr.drew
        go_wp2_with (fail)
        refine (HC.out _).mono ?_
        rintro e W1 ⟨rfl, hb1⟩
        rw [HN.out.2]
        have HB2 := Lib.hid (un_drew hb1)
        clear hb1
        go_wp2_with (fail)
        go_roundw
        case rel => exact FIN.out _ (k + 1) HB2.out (by omega) HN.out.1
        case measure => simp [intOf]; omega
    · have hke : k = s.size := by omega
      have hn : litB s.data.toList = true := by rw [hlit, drop_end s k (by omega), litB_nil]
      have A := Lib.hid (And.intro hn hbel)
      clear hlit hblk hbel hn
      go_wp2_with (fail)
      rw [Exit.noGoto_ret]
      go_ret
      exact ⟨by unfold litE; rw [A.out.1]; rfl, A.out.2⟩

/-! decode. -/
def decV (s : ByteArray) : Value := if okS s then .tuple #[.string (rOut s), .bool true] else .tuple #[.string ⟨#[]⟩, .bool false]
theorem decV_ok {s : ByteArray} (h : okS s) : decV s = .tuple #[.string (rOut s), .bool true] := by unfold decV; rw [if_pos h]
theorem decV_no {s : ByteArray} (h : ¬ okS s) : decV s = .tuple #[.string ⟨#[]⟩, .bool false] := by unfold decV; rw [if_neg h]
/-- What has been read, and what is still to come, make up the whole. -/
def RdAt (s : ByteArray) (l : List UInt8) (i : Nat) : Prop :=
  i ≤ s.size ∧ l ++ (scan (s.data.toList.drop i)).1 = (scan s.data.toList).1 ∧ i + (scan (s.data.toList.drop i)).2.1 = (scan s.data.toList).2.1 ∧ l.length ≤ i
theorem rdAt_end {s : ByteArray} {l : List UInt8} {i : Nat} (h : RdAt s l i) (he : scan (s.data.toList.drop i) = ([], 0, 0)) :
    l = (scan s.data.toList).1 ∧ i = (scan s.data.toList).2.1 := by
  obtain ⟨_, h1, h2, _⟩ := h
  rw [he] at h1 h2
  exact ⟨by simpa using h1, by simpa using h2⟩
theorem rdAt_plain {s : ByteArray} {l : List UInt8} {i : Nat} (h : RdAt s l i) (hi : i < s.size) (hc : s[i] ≠ 37) : RdAt s (l ++ [s[i]]) (i + 1) := by
  obtain ⟨h0, h1, h2, h4⟩ := h
  rw [drop_at s i hi, scan_plain _ _ hc] at h1 h2
  exact ⟨by omega, by simpa using h1, by simp at h2; omega, by simp; omega⟩
theorem rdAt_esc {s : ByteArray} {l : List UInt8} {i : Nat} {b c : UInt8} {u : List UInt8} (h : RdAt s l i) (hl : s.data.toList.drop i = 37 :: b :: c :: u) (hb : 0 ≤ hexv b) (hc : 0 ≤ hexv c) (hu : s.data.toList.drop (i + 3) = u) (hz : i + 3 ≤ s.size) :
    RdAt s (l ++ [escV b c]) (i + 3) := by
  obtain ⟨h0, h1, h2, h4⟩ := h
  rw [hl, scan_esc _ _ _ ⟨hb, hc⟩] at h1 h2
  unfold RdAt
  rw [hu]
  exact ⟨hz, by simpa using h1, by simp at h2; omega, by simp; omega⟩
def QDecRel (s : ByteArray) (w0 : World) (ov iv : Value) (wr : World) : Prop :=
  ∃ (l : List UInt8) (i : Nat), iv = .int .i64 (i : Int) ∧ RdAt s l i ∧ wr.ownsRow w0.heap.size 5 1 ov l.length (Lib.byteCells l) ∧ Below w0.heap.size w0 wr

set_option maxRecDepth 100000 in
set_option maxHeartbeats 4000000 in
theorem qdecode (s : ByteArray) (w : World) (hs : s.size ≤ 1000000000) :
    Calls Tryd.prog 47 #[.string s] w fun e w' => e = .returned (decV s) ∧ Below w.heap.size w w' := by
  obtain ⟨i0, hi, hz0, hz1, hz2⟩ := info_parts infoByte
  go_enter Tryd.func47, Tryd.ntmps47
  go_wp2_with (fail)
  go_loopw [4, 5] (fun ov iv wr => QDecRel s w ov iv wr) (fun _ iv _ => s.size - (intOf iv).toNat)
  case atStart => exact ⟨[], 0, rfl, ⟨Nat.zero_le _, by simp, by simp, Nat.le_refl _⟩, World.ownsRow_nil _ _ _ _, Below.refl _ _⟩
  case round =>
    obtain ⟨l, i, rfl, hat, hown, hbel⟩ := hrel
    obtain ⟨va, vc, rfl⟩ := own_slice hown
    have hlb := hat.2.2.2
    have hle := hat.1
    by_cases hlt : i < s.size
    · obtain ⟨x, hx⟩ : ∃ x, x = s[i] := ⟨_, rfl⟩
      have hxs : s[i] = x := hx.symm
      have hxb := u8_bound x
      have hii : (i : Int) < s.size := by omega
      have hi0 : (0 : Int) ≤ i := by omega
      have hWz := hbel.size
      by_cases hc : x = 37
      · subst hc
        cases hes : escL (s.data.toList.drop i)
        · have hsc : scan (s.data.toList.drop i) = ([], 0, 0) := by rw [drop_at s i hlt, hxs] at hes ⊢; exact scan_bad _ hes
          have hre := rdAt_end hat hsc
          have ho : ¬ okS s := by unfold okS; omega
          have A := Lib.hid (And.intro hes (And.intro ho hbel))
          clear hat hown hbel hes hsc hre ho hx
          go_wp2_with (fail)
          refine (qescape_no s i _ hs (by omega) A.out.1).mono ?_
          rintro e W2 ⟨rfl, q, rfl⟩
          go_wp2_with (fail)
          go_ret2
          exact ⟨by rw [decV_no A.out.2.1]; rfl, below_drewN A.out.2.2 q⟩
        · obtain ⟨b, c, u, hl, hb, hc, h3, hu⟩ := escL_yes s i hlt hxs hes
          have hra := rdAt_esc hat hl hb hc hu h3
          have HE := Lib.hid (And.intro hl (And.intro hb (And.intro hc (And.intro hra hbel))))
          clear hat hbel hes hl hb hc hu hra hx
          go_wp2_with (fail)
          refine (qescape_yes s i b c u _ hs HE.out.1 HE.out.2.1 HE.out.2.2.1).mono ?_
          rintro e W2 ⟨rfl, q, rfl⟩
          have hown2 := own_drewN hown q
          go_wp2_with (at_builtin; refine wpList_append_own _ rfl _ _ 63 rfl w.heap.size 5 i0 (.int .u8 0) 1 1 Tryd.underlying63 hi hz0 hz1 hz2 rfl (by decide) _ _ _ rfl (hown2.alloc _) ⟨(wr.drewN q).heap.size, 0, none⟩ 1 1 [.int .u8 ((escV b c).toNat : Int)] rfl rfl ?c1 ?c2 ?c3 ?c4 ?c5 ?_)
          case c1 => exact one_new (by simp) _ _
          case c2 => exact one_int _ _
          case c3 => unfold maxLen; omega
          case c4 => omega
          case c5 => simp; omega
          intro v' w2 hown' hgrow _
          obtain ⟨vb, vd, rfl⟩ := own_slice hown'
          have W := Lib.hid (And.intro hown' (And.intro hgrow hown2))
          clear hown' hgrow hown hown2
          go_wp2_with (fail)
          go_roundw
          case measure => simp [intOf]; omega
          case rel =>
            obtain ⟨hown1, hgrow1, hown⟩ := W.out
            refine ⟨l ++ [escV b c], i + 3, rfl, HE.out.2.2.2.1, ?_, ?_⟩
            · rw [Lib.byteCells_append, List.length_append]; exact hown1
            · exact ((below_drewN HE.out.2.2.2.2 q).alloc hWz (.cells #[.int .u8 ((escV b c).toNat : Int)] 5)).grown hgrow1 (by simp; omega) (fun k hk => (hown.lt k hk).1)
      · have hc37 : ((x.toNat : Int) == 37) = false := beq_eq_false_iff_ne.2 (fun e => hc (u8_ext (by simpa using e)))
        have hra := rdAt_plain hat hlt (by rw [hxs]; exact hc)
        rw [hxs] at hra
        have A := Lib.hid (And.intro hra hbel)
        clear hat hbel hra hc hx
        go_wp2_with (at_builtin; refine wpList_append_own _ rfl _ _ 63 rfl w.heap.size 5 i0 (.int .u8 0) 1 1 Tryd.underlying63 hi hz0 hz1 hz2 rfl (by decide) _ _ _ rfl (hown.alloc _) ⟨wr.heap.size, 0, none⟩ 1 1 [.int .u8 (x.toNat : Int)] rfl rfl ?c1 ?c2 ?c3 ?c4 ?c5 ?_)
        case c1 => exact one_new rfl _ _
        case c2 => exact one_int _ _
        case c3 => unfold maxLen; omega
        case c4 => omega
        case c5 => simp; omega
        intro v' w2 hown' hgrow _
        obtain ⟨vb, vd, rfl⟩ := own_slice hown'
        have W := Lib.hid (And.intro hown' (And.intro hgrow hown))
        clear hown' hgrow hown
        go_wp2_with (fail)
        go_roundw
        case measure => simp [intOf]; omega
        case rel =>
          obtain ⟨hown1, hgrow1, hown⟩ := W.out
          refine ⟨l ++ [x], i + 1, rfl, A.out.1, ?_, ?_⟩
          · rw [Lib.byteCells_append, List.length_append]; exact hown1
          · exact (A.out.2.alloc hWz (.cells #[.int .u8 (x.toNat : Int)] 5)).grown hgrow1 (by simp; omega) (fun k hk => (hown.lt k hk).1)
    · have hd : s.data.toList.drop i = [] := drop_end s i (by omega)
      have hre := rdAt_end hat (by rw [hd, scan_nil])
      have ho : okS s := by unfold okS; omega
      have hcv := run_own_string (P := Tryd.prog) (w := wr) (src := 63) (dst := 9) Tryd.underlying63 Tryd.underlying5 Tryd.underlying9 rfl hown
      have A := Lib.hid (And.intro hre (And.intro ho hbel))
      clear hat hown hbel hd hre ho
      go_wp2_with (fail)
      go_ret2
      exact ⟨by rw [decV_ok A.out.2.1, rOut_ok A.out.2.1, ← A.out.1.1]; rfl, A.out.2.2⟩
end Go.Proofs.YtfbkbnojbbpopaaDoor
