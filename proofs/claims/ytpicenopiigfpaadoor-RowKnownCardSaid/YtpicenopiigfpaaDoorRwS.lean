/-
  The reference of rows, fourth part: word; condition: strings of at most 1000000000 bytes.
-/
import Derived.Test.YtpicenopiigfpaaDoorRwR
namespace Go.Proofs.YtpicenopiigfpaaDoor
open Go.RowKit
set_option linter.unusedVariables false
set_option linter.unusedSimpArgs false

/-- What word hands back. -/
def wordV (l : List UInt8) : Value := match readW l with
  | some r => .tuple #[.agg #[.int .i64 0, .string (mkB r.1), .bool (decide (l.head? = some 34))], .int .i64 (r.2 : Int)]
  | none => .tuple #[.agg #[.int .i64 0, .string ⟨#[]⟩, .bool false], .int .i64 0]
theorem wordV_no {l : List UInt8} (h : readW l = none) : wordV l = .tuple #[.agg #[.int .i64 0, .string ⟨#[]⟩, .bool false], .int .i64 0] := by unfold wordV; rw [h]
theorem wordV_yes {l : List UInt8} {r : List UInt8 × Nat} (h : readW l = some r) : wordV l = .tuple #[.agg #[.int .i64 0, .string (mkB r.1), .bool (decide (l.head? = some 34))], .int .i64 (r.2 : Int)] := by unfold wordV; rw [h]
/-- How far it has come in a bare word. -/
def BAt (s : ByteArray) (k n : Nat) : Prop := k + n ≤ s.size ∧ barN (s.data.toList.drop k) = n + barN (s.data.toList.drop (k + n))
theorem BAt.next {s : ByteArray} {k n : Nat} (h : BAt s k n) (hlt : k + n < s.size) (hb : bareC s[k + n] = true) : BAt s k (n + 1) := by
  refine ⟨by omega, ?_⟩
  rw [h.2, barN_drop hlt, if_pos hb]
  have : k + (n + 1) = k + n + 1 := by omega
  rw [this]; omega
theorem BAt.stop {s : ByteArray} {k n : Nat} (h : BAt s k n) (hlt : k + n < s.size) (hb : bareC s[k + n] = false) : barN (s.data.toList.drop k) = n := by
  rw [h.2, barN_drop hlt, hb, if_neg (by decide)]; rfl
theorem BAt.over {s : ByteArray} {k n : Nat} (h : BAt s k n) (he : k + n = s.size) : barN (s.data.toList.drop k) = n := by
  rw [h.2, drop_end s _ (by omega)]; rfl
theorem endL_drop {s : ByteArray} {k : Nat} (h : k < s.size) : endL (s.data.toList.drop k) = isBl s[k] := by rw [drop_at s k h]; rfl
theorem readW_bare {s : ByteArray} {k n : Nat} (hk : k < s.size) (h34 : s[k] ≠ 34) (hn : barN (s.data.toList.drop k) = n) :
    readW (s.data.toList.drop k) = if 0 < n ∧ endL (s.data.toList.drop (k + n)) = true then some ((s.data.toList.drop k).take n, n) else none := by
  have e : readW (s.data.toList.drop k) = readB (s.data.toList.drop k) := by
    rw [drop_at s k hk]
    show (if s[k] = 34 then _ else _) = _
    rw [if_neg h34]
  rw [e]
  unfold readB
  rw [hn, List.drop_drop]
theorem readW_quo {s : ByteArray} {k : Nat} (hk : k < s.size) (h34 : s[k] = 34) : readW (s.data.toList.drop k) = readQ (s.data.toList.drop (k + 1)) := by
  rw [drop_at s k hk, h34]; rfl

theorem mkB_ext' (s : ByteArray) (k n : Nat) : s.extract k (k + n) = mkB ((s.data.toList.drop k).take n) := by
  apply str_ext
  rw [Lib.extract_data, mkB_data, show k + n - k = n by omega]
set_option maxRecDepth 100000 in
set_option maxHeartbeats 4000000 in
theorem rword (s : ByteArray) (k : Nat) (w : World) (hs : s.size ≤ 1000000000) (hk : k < s.size) (hbl : isBl s[k] = false) :
    Calls Tryd.prog 50 #[.string s, .int .i64 (k : Int)] w fun e w' => e = .returned (wordV (s.data.toList.drop k)) ∧ Below w.heap.size w w' := by
  have hii : (k : Int) < s.size := by omega
  have hi0 : (0 : Int) ≤ k := by omega
  obtain ⟨x, hx⟩ : ∃ x, x = s[k] := ⟨_, rfl⟩
  have hxs : s[k] = x := hx.symm
  have hxb := u8_bound x
  have hd := drop_at s k hk
  rw [hxs] at hbl hd
  by_cases h34 : x = 34
  · subst h34
    have hq := readW_quo hk hxs
    rcases e : quo (s.data.toList.drop (k + 1)) with _ | r
    · have hr : readW (s.data.toList.drop k) = none := by rw [hq]; unfold readQ; rw [e]; rfl
      have HR := Lib.hid (And.intro hr e)
      clear hr e hd hbl hx hq
      go_enter Tryd.func50, Tryd.ntmps50
      go_wp2_with (fail)
      refine (rquoted s k _ hs hk).mono ?_
      rw [HR.out.2, show quoV none = Value.tuple #[.string ⟨#[]⟩, .int .i64 0] from rfl]
      rintro e W1 ⟨rfl, h1⟩
      have hB := (Blk.new w 41 #[.int .i64 0, .string ⟨#[]⟩, .bool false]).call h1
      have f0 := hB.frozen 0
      have f1 := hB.frozen 1
      have f2 := hB.frozen 2
      have d0 := hB.cell' (i := 0) (v := .int .i64 0) rfl
      have d1 := hB.cell' (i := 1) (v := .string ⟨#[]⟩) rfl
      have d2 := hB.cell' (i := 2) (v := .bool false) rfl
      have hz := hB.lt
      have H1 := Lib.hid (gr_call (gr_alloc (Below.refl _ _) (.cells #[.int .i64 0, .string ⟨#[]⟩, .bool false] 41)) h1)
      clear hB h1
      go_wp2_with (fail)
      refine bodyPost_ret (v := .tuple #[.agg #[.int .i64 0, .string ⟨#[]⟩, .bool false], .int .i64 0]) (by simp [results, Tryd.results50, go_sem, d0, d1, d2, hz]) rfl ⟨by rw [wordV_no HR.out.1], ?_⟩
      exact gr_set (gr_set (gr_set H1.out (by simp) _) (by simp) _) (by simp) _
    · have hle := quo_le _ r e
      rw [List.length_drop, size_data] at hle
      have hr : readW (s.data.toList.drop k) = if endL (s.data.toList.drop (k + 1 + r.2)) = true then some (r.1, r.2 + 1) else none := by
        rw [hq]; unfold readQ; rw [e]
        show (if endL ((s.data.toList.drop (k + 1)).drop r.2) = true then _ else _) = _
        rw [List.drop_drop]
      have hh : (s.data.toList.drop k).head? = some 34 := by rw [hd]; rfl
      obtain ⟨m, hm⟩ : ∃ m, m = r.2 + 1 := ⟨_, rfl⟩
      have e1 : k + 1 + r.2 = k + m := by omega
      rw [e1] at hr
      rw [← hm] at hr
      have hm1 : ((m : Int) == 0) = false := beq_eq_false_iff_ne.2 (by omega)
      have hmk : k + m ≤ s.size := by omega
      have HR := Lib.hid (And.intro hr (And.intro e (And.intro hm hh)))
      clear hr e hd hbl hx hq hle e1 hh
      -- the three ways behind the quoted word
      have hway : k + m = s.size ∨ ∃ h : k + m < s.size, isBl s[k + m] = true ∨ isBl s[k + m] = false := by
        by_cases h : k + m = s.size
        · exact .inl h
        · refine .inr ⟨by omega, ?_⟩
          cases isBl (s[k + m]'(by omega)) <;> simp
      rcases hway with h | ⟨h, hb | hb⟩
      case' inl =>
        have t1 : ¬ (k : Int) + m < s.size := by omega
        have hf := HR.out.1
        have e0 : s.data.toList.drop (k + m) = [] := drop_end s _ (by omega)
        rw [e0, show endL [] = true from rfl, if_pos rfl] at hf
        have hw := wordV_yes hf
        rw [decide_eq_true HR.out.2.2.2] at hw
      case' inr.inl =>
        have t1 : (k : Int) + m < s.size := by omega
        have t0 : (0 : Int) ≤ (k : Int) + m := by omega
        have t2 : ((k : Int) + m).toNat = k + m := by omega
        have hf := HR.out.1
        rw [endL_drop h, hb, if_pos rfl] at hf
        have hw := wordV_yes hf
        rw [decide_eq_true HR.out.2.2.2] at hw
      case' inr.inr =>
        have t1 : (k : Int) + m < s.size := by omega
        have t0 : (0 : Int) ≤ (k : Int) + m := by omega
        have t2 : ((k : Int) + m).toNat = k + m := by omega
        have hf := HR.out.1
        rw [endL_drop h, hb, if_neg (by decide)] at hf
        have hw := wordV_no hf
      all_goals
        clear hm
        have HF := Lib.hid hw
        clear hf hw
        go_enter Tryd.func50, Tryd.ntmps50
        go_wp2_with (fail)
        refine (rquoted s k _ hs hk).mono ?_
        rw [HR.out.2.1, show quoV (some r) = Value.tuple #[.string (mkB r.1), .int .i64 ((r.2 + 1 : Nat) : Int)] from rfl, ← HR.out.2.2.1]
        rintro e W1 ⟨rfl, h1⟩
        have hB := (Blk.new w 41 #[.int .i64 0, .string ⟨#[]⟩, .bool false]).call h1
        have f0 := hB.frozen 0
        have f1 := hB.frozen 1
        have f2 := hB.frozen 2
        have d0 := hB.cell' (i := 0) (v := .int .i64 0) rfl
        have d1 := hB.cell' (i := 1) (v := .string ⟨#[]⟩) rfl
        have d2 := hB.cell' (i := 2) (v := .bool false) rfl
        have hz := hB.lt
        have H1 := Lib.hid (gr_call (gr_alloc (Below.refl _ _) (.cells #[.int .i64 0, .string ⟨#[]⟩, .bool false] 41)) h1)
        clear hB h1
        go_wp2_with (go_at_call 49; refine (rblank _ _).mono ?_; rintro e w' ⟨rfl, rfl⟩)
        refine bodyPost_ret (v := wordV (s.data.toList.drop k)) (by simp [results, Tryd.results50, go_sem, d0, d1, d2, hz, HF.out]) rfl ⟨rfl, ?_⟩
        exact gr_set (gr_set (gr_set H1.out (by simp) _) (by simp) _) (by simp) _
  · have hq := fun n => readW_bare (n := n) hk (by rw [hxs]; exact h34)
    have hne : ((x.toNat : Int) == 34) = false := beq_eq_false_iff_ne.2 (by have := u8_ne (n := 34) (by decide) h34; omega)
    have hnb : bareC s[k] = bareC x := by rw [hxs]
    have hh : decide ((s.data.toList.drop k).head? = some 34) = false := by rw [hd]; simp [h34]
    have HQ := Lib.hid (And.intro hq (And.intro hbl (And.intro hxs hh)))
    clear hq hbl h34 hd hx hh
    go_enter Tryd.func50, Tryd.ntmps50
    go_wp2_with (fail)
    go_loopw [8] (fun iv wr => ∃ n : Nat, BAt s k n ∧ iv = .int .i64 (n : Int) ∧ Blk wr w.heap.size 41 #[.int .i64 0, .string ⟨#[]⟩, .bool false] ∧ Below w.heap.size w wr) (fun iv _ => s.size - (intOf iv).toNat)
    case atStart => exact ⟨0, ⟨by omega, by simp⟩, rfl, Blk.new _ _ _, gr_alloc (Below.refl _ _) _⟩
    case round =>
      obtain ⟨n, hat, rfl, hB, hbel⟩ := hrel
      have hkn := hat.1
      have hn0 : (0 : Int) ≤ (k : Int) + n := by omega
      have hnn : ((k : Int) + n).toNat = k + n := by omega
      have f0 := hB.frozen 0
      have f1 := hB.frozen 1
      have f2 := hB.frozen 2
      have d0 := hB.cell' (i := 0) (v := .int .i64 0) rfl
      have d1 := hB.cell' (i := 1) (v := .string ⟨#[]⟩) rfl
      have d2 := hB.cell' (i := 2) (v := .bool false) rfl
      have hz := hB.lt
      by_cases hlt : k + n < s.size
      · have t1 : (k : Int) + n < s.size := by omega
        obtain ⟨y, hy⟩ : ∃ y, y = s[k + n] := ⟨_, rfl⟩
        have hys : s[k + n] = y := hy.symm
        have hyb := u8_bound y
        have hend := endL_drop hlt
        have hnext := fun h => hat.next hlt h
        have hstop := fun h => hat.stop hlt h
        rw [hys] at hend hnext hstop
        cases hbl : isBl y
        · cases hba : bareC y
          · -- a byte that is none of a bare word
            have hr : readW (s.data.toList.drop k) = none := by
              rw [HQ.out.1 n (hstop hba), hend, hbl, if_neg (by simp)]
            have A := Lib.hid (And.intro hr (And.intro hbl (And.intro hba (And.intro hB hbel))))
            clear hr hbl hba hstop hnext hend hy hat hB hbel
            go_wp2_with (first | (go_at_call 49; refine (rblank _ _).mono ?_; rw [A.out.2.1]; rintro e w' ⟨rfl, rfl⟩) | (go_at_call 44; refine (rbare _ _).mono ?_; rw [A.out.2.2.1]; rintro e w' ⟨rfl, rfl⟩))
            refine bodyPost_ret (v := wordV (s.data.toList.drop k)) (by simp [results, Tryd.results50, go_sem, d0, d1, d2, hz, wordV_no A.out.1]) rfl ⟨rfl, ?_⟩
            exact gr_set (gr_set (gr_set A.out.2.2.2.2 (by simp) _) (by simp) _) (by simp) _
          · have A := Lib.hid (And.intro (hnext hba) (And.intro hbl (And.intro hba (And.intro hB hbel))))
            clear hbl hba hstop hnext hend hy hat hB hbel
            go_wp2_with (first | (go_at_call 49; refine (rblank _ _).mono ?_; rw [A.out.2.1]; rintro e w' ⟨rfl, rfl⟩) | (go_at_call 44; refine (rbare _ _).mono ?_; rw [A.out.2.2.1]; rintro e w' ⟨rfl, rfl⟩))
            go_roundw
            case rel => exact ⟨n + 1, A.out.1, rfl, A.out.2.2.2.1, A.out.2.2.2.2⟩
            case measure => simp [intOf]; omega
        · -- a blank
          have hba : bareC y = false := by
            cases h : bareC y
            · rfl
            · rw [bar_bl h] at hbl; cases hbl
          have hn1 : 0 < n := by
            rcases Nat.eq_zero_or_pos n with h0 | h0
            · subst h0
              have : isBl x = true := by
                have h1 := HQ.out.2.2.1
                rw [← hbl, ← hys, ← h1]; rfl
              rw [HQ.out.2.1] at this; cases this
            · exact h0
          have hr : readW (s.data.toList.drop k) = some ((s.data.toList.drop k).take n, n) := by
            rw [HQ.out.1 n (hstop hba), hend, hbl, if_pos ⟨hn1, rfl⟩]
          have hex : wordV (s.data.toList.drop k) = .tuple #[.agg #[.int .i64 0, .string (s.extract k (k + n)), .bool false], .int .i64 (n : Int)] := by rw [wordV_yes hr, HQ.out.2.2.2, mkB_ext' s k n]
          have A := Lib.hid (And.intro hr (And.intro hbl (And.intro hex (And.intro hB hbel))))
          clear hr hbl hba hstop hnext hend hy hat hB hbel hex
          go_wp2_with (go_at_call 49; refine (rblank _ _).mono ?_; rw [A.out.2.1]; rintro e w' ⟨rfl, rfl⟩)
          refine bodyPost_ret (v := wordV (s.data.toList.drop k)) (by simp [results, Tryd.results50, go_sem, d0, d1, d2, hz, A.out.2.2.1]) rfl ⟨rfl, ?_⟩
          exact gr_set (gr_set (gr_set A.out.2.2.2.2 (by simp) _) (by simp) _) (by simp) _
      · have t1 : ¬ (k : Int) + n < s.size := by omega
        have hr : readW (s.data.toList.drop k) = some ((s.data.toList.drop k).take n, n) := by
          rw [HQ.out.1 n (hat.over (by omega)), drop_end s (k + n) (by omega), if_pos ⟨by omega, rfl⟩]
        have hex : wordV (s.data.toList.drop k) = .tuple #[.agg #[.int .i64 0, .string (s.extract k (k + n)), .bool false], .int .i64 (n : Int)] := by rw [wordV_yes hr, HQ.out.2.2.2, mkB_ext' s k n]
        have A := Lib.hid (And.intro hr (And.intro hex (And.intro hB hbel)))
        clear hr hat hB hbel hex
        go_wp2_with (fail)
        refine bodyPost_ret (v := wordV (s.data.toList.drop k)) (by simp [results, Tryd.results50, go_sem, d0, d1, d2, hz, A.out.2.1]) rfl ⟨rfl, ?_⟩
        exact gr_set (gr_set (gr_set A.out.2.2.2 (by simp) _) (by simp) _) (by simp) _
end Go.Proofs.YtpicenopiigfpaaDoor
