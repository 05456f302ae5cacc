/-
  QueryCodes, QueryPairs, QueryEncodes, QueryAppends, walked: they return true, whatever the input; condition: a variable of the library is an int.
-/
import Derived.Test.YtfbkbnojbbpopaaDoorQyW
namespace Go.Proofs.YtfbkbnojbbpopaaDoor
open Go.RowKit
set_option linter.unusedVariables false
set_option linter.unusedSimpArgs false

set_option maxRecDepth 100000 in
set_option maxHeartbeats 4000000 in
theorem law_codes (s : ByteArray) (ws : s.size ≤ 9223372036854775807) (w : World) (hm : MaxOk w) :
    Calls Tryd.prog 4 #[.string s] w fun e W' => e = .returned (.bool true) ∧ Below w.heap.size w W' := by
  have HM := Lib.hid hm
  clear hm
  by_cases h0 : 300 < s.size
  · have h0' : (300 : Int) < s.size := by omega
    go_enter Tryd.func4, Tryd.ntmps4
    go_wp2_with (fail)
    refine (lawake _ HM.out).mono ?_
    rintro e W1 ⟨rfl, h1⟩
    have H1 := Lib.hid h1
    clear h1
    go_wp2_with (fail)
    go_ret
    exact ⟨rfl, H1.out⟩
  · have h0' : ¬ (300 : Int) < s.size := by omega
    have hq := fun W => eqSet stP stP W
    rw [eqP_yes (fun c _ => rfl)] at hq
    go_enter Tryd.func4, Tryd.ntmps4
    go_wp2_with (fail)
    refine (qStay _).mono ?_
    rintro e W1 ⟨rfl, h1⟩
    have H1 := Lib.hid h1
    clear h1
    go_wp2_with (fail)
    refine (rStay _).mono ?_
    rintro e W2 ⟨rfl, h2⟩
    have H2 := Lib.hid (gr_call H1.out h2)
    clear h2
    generalize hst : stP = st at *
    clear hst
    go_wp2_with (fail)
    refine (qencode s _ (by omega)).mono ?_
    rintro e W3 ⟨rfl, h3⟩
    have H3 := Lib.hid (gr_call H2.out h3)
    clear h3
    go_wp2_with (fail)
    refine (rencodeQ s (by omega) _).mono ?_
    rintro e W4 ⟨rfl, h4⟩
    have H4 := Lib.hid (gr_call H3.out h4)
    clear h4
    go_wp2_with (fail)
    refine (qcheck s _ (by omega)).mono ?_
    rintro e W5 ⟨rfl, h5⟩
    have H5 := Lib.hid (gr_call H4.out h5)
    clear h5
    go_wp2_with (fail)
    refine (rcheckQ s _ (by omega)).mono ?_
    rintro e W6 ⟨rfl, rfl⟩
    go_wp2_with (fail)
    refine (qliteral s _ (by omega)).mono ?_
    rintro e W7 ⟨rfl, h7⟩
    have H7 := Lib.hid (gr_call H5.out h7)
    clear h7
    go_wp2_with (fail)
    refine (rliteral s _ (by omega)).mono ?_
    rintro e W8 ⟨rfl, h8⟩
    have H8 := Lib.hid (gr_call H7.out h8)
    clear h8
    go_wp2_with (fail)
    refine (lawake _ (HM.out.below H8.out (Nat.le_refl _))).mono ?_
    rintro e W9 ⟨rfl, h9⟩
    have H9 := Lib.hid (gr_call H8.out h9)
    clear h9
    go_wp2_with (fail)
    go_ret
    exact ⟨rfl, H9.out⟩

theorem pairsQ_small (s : ByteArray) : (pairsQ s.data.toList).length ≤ s.size + 1 := by
  unfold pairsQ
  split
  · unfold pairsL
    rw [List.length_map]
    have h1 := List.length_filter_le (fun p : List UInt8 => !p.isEmpty) (splitL 38 s.data.toList)
    have h2 := splitL_len 38 s.data.toList
    rw [size_data] at h2
    omega
  · exact Nat.zero_le _

set_option maxRecDepth 100000 in
set_option maxHeartbeats 8000000 in
theorem law_pairs (s x : ByteArray) (ws : s.size ≤ 9223372036854775807) (wx : x.size ≤ 9223372036854775807) (w : World) (hm : MaxOk w) :
    Calls Tryd.prog 8 #[.string s, .string x] w fun e W' => e = .returned (.bool true) ∧ Below w.heap.size w W' := by
  have HM := Lib.hid hm
  clear hm
  by_cases h0 : 300 < s.size ∨ 300 < x.size
  · rcases (show (300 : Int) < s.size ∨ (¬ (300 : Int) < s.size ∧ (300 : Int) < x.size) by omega) with h | ⟨h, h'⟩
    all_goals
      clear h0
      go_enter Tryd.func8, Tryd.ntmps8
      go_wp2_with (fail)
      refine (lawake _ HM.out).mono ?_
      rintro e W1 ⟨rfl, h1⟩
      have H1 := Lib.hid h1
      clear h1
      go_wp2_with (fail)
      go_ret
      exact ⟨rfl, H1.out⟩
  · have h0' : ¬ (300 : Int) < s.size := by omega
    have h0'' : ¬ (300 : Int) < x.size := by omega
    have hss : s.size ≤ 300 := by omega
    have hlp := pairsQ_small s
    have hld := (decL_small s (by omega)).1
    clear h0
    go_enter Tryd.func8, Tryd.ntmps8
    go_wp2_with (fail)
    refine (qpairs s (by omega) _ HM.out).mono ?_
    rintro e W1 ⟨v, rfl, hown, h1⟩
    obtain ⟨A1, c1, rfl, hc1, _⟩ := own_cellsP hown
    have H1 := Lib.hid (And.intro h1 hc1)
    clear hown h1 hc1
    go_wp2_with (fail)
    refine (rpairs s (by omega) _).mono ?_
    rintro e W2 ⟨v, rfl, hown, h2⟩
    obtain ⟨A2, c2, rfl, hc2, _⟩ := own_cellsP hown
    have H2 := Lib.hid (And.intro (gr_call H1.out.1 h2) (And.intro (H1.out.2.below h2) hc2))
    clear hown h2 hc2
    go_wp2_with (fail)
    refine (lsame _ (by omega) A1 A2 c1 c2 _ H2.out.2.1 H2.out.2.2).mono ?_
    rintro e W3 ⟨rfl, h3⟩
    have H3 := Lib.hid (gr_call H2.out.1 h3)
    clear h3
    go_wp2_with (fail)
    refine (qdecoded s (by omega) _ (HM.out.below H3.out (Nat.le_refl _))).mono ?_
    rintro e W4 ⟨v, rfl, hown, h4⟩
    obtain ⟨A4, c4, rfl, hc4, _⟩ := own_cellsP hown
    have H4 := Lib.hid (And.intro (gr_call H3.out h4) hc4)
    clear hown h4 hc4
    go_wp2_with (fail)
    refine (rdecoded s (by omega) _).mono ?_
    rintro e W5 ⟨v, rfl, hown, h5⟩
    obtain ⟨A5, c5, rfl, hc5, _⟩ := own_cellsP hown
    have H5 := Lib.hid (And.intro (gr_call H4.out.1 h5) (And.intro (H4.out.2.below h5) hc5))
    clear hown h5 hc5
    go_wp2_with (fail)
    refine (lsame _ (by omega) A4 A5 c4 c5 _ H5.out.2.1 H5.out.2.2).mono ?_
    rintro e W6 ⟨rfl, h6⟩
    have H6 := Lib.hid (gr_call H5.out.1 h6)
    clear h6
    go_wp2_with (fail)
    refine (qget s x (by omega) _ (HM.out.below H6.out (Nat.le_refl _))).mono ?_
    rintro e W7 ⟨rfl, h7⟩
    have H7 := Lib.hid (gr_call H6.out h7)
    clear h7
    go_wp2_with (fail)
    refine (rget s x (by omega) _).mono ?_
    rintro e W8 ⟨rfl, h8⟩
    have H8 := Lib.hid (gr_call H7.out h8)
    clear h8
    go_wp2_with (fail)
    refine (qcanonical s (by omega) _ (HM.out.below H8.out (Nat.le_refl _))).mono ?_
    rintro e W9 ⟨rfl, h9⟩
    have H9 := Lib.hid (gr_call H8.out h9)
    clear h9
    go_wp2_with (fail)
    refine (rcanonicalQ s (by omega) _).mono ?_
    rintro e Wa ⟨rfl, ha⟩
    have Ha := Lib.hid (gr_call H9.out ha)
    clear ha
    go_wp2_with (fail)
    refine (lawake _ (HM.out.below Ha.out (Nat.le_refl _))).mono ?_
    rintro e Wb ⟨rfl, hb⟩
    have Hb := Lib.hid (gr_call Ha.out hb)
    clear hb
    go_wp2_with (fail)
    go_ret
    exact ⟨rfl, Hb.out⟩

set_option maxRecDepth 100000 in
set_option maxHeartbeats 8000000 in
theorem law_encodes (s t : ByteArray) (ws : s.size ≤ 9223372036854775807) (wt : t.size ≤ 9223372036854775807) (w : World) (hm : MaxOk w) :
    Calls Tryd.prog 5 #[.string s, .string t] w fun e W' => e = .returned (.bool true) ∧ Below w.heap.size w W' := by
  have HM := Lib.hid hm
  clear hm
  by_cases h0 : 200 < s.size ∨ 200 < t.size
  · rcases (show (200 : Int) < s.size ∨ (¬ (200 : Int) < s.size ∧ (200 : Int) < t.size) by omega) with h | ⟨h, h'⟩
    all_goals
      clear h0
      go_enter Tryd.func5, Tryd.ntmps5
      go_wp2_with (fail)
      refine (lawake _ HM.out).mono ?_
      rintro e W1 ⟨rfl, h1⟩
      have H1 := Lib.hid h1
      clear h1
      go_wp2_with (fail)
      go_ret
      exact ⟨rfl, H1.out⟩
  · have h0' : ¬ (200 : Int) < s.size := by omega
    have h0'' : ¬ (200 : Int) < t.size := by omega
    have hss : s.size ≤ 200 := by omega
    have htt : t.size ≤ 200 := by omega
    clear h0
    have l1 := encQ_len s.data.toList
    have l2 := encQ_len t.data.toList
    rw [size_data] at l1 l2
    obtain ⟨a, ha⟩ : ∃ a, a = mkB (encQ s.data.toList) := ⟨_, rfl⟩
    obtain ⟨b, hb⟩ : ∃ b, b = mkB (encQ t.data.toList) := ⟨_, rfl⟩
    have hza : a.size ≤ 600 := by rw [ha, mkB_size]; omega
    have hzb : b.size ≤ 600 := by rw [hb, mkB_size]; omega
    have hok : okS a := by rw [ha]; exact okS_encQ _
    have hro : rOut a = s := by rw [ha, rOut_encQ, mkB_of]
    have hlit : litE a.data.toList = 0 := by rw [ha, mkB_data]; unfold litE; rw [litB_encQ, if_pos rfl]
    have hinj : (a.toList == b.toList) = (s.toList == t.toList) := by
      rw [str_beq, str_beq, decide_eq_decide]
      constructor
      · intro h
        rw [ha, hb, mkB_inj] at h
        exact str_ext (encQ_inj h)
      · intro h; rw [ha, hb, h]
    have hcat : mkB (encQ (s ++ t).data.toList) = a ++ b := by
      rw [ha, hb, mkB_append, ← encQ_append]
      congr 2
    have K := Lib.hid (And.intro ha (And.intro hb (And.intro hok (And.intro hro (And.intro hlit hcat)))))
    clear ha hb hok hro hlit hcat l1 l2
    have hst : (s ++ t).size ≤ 1000000000 := by simp; omega
    have hbb : ∀ x : Bool, (x == x) = true := by decide
    go_enter Tryd.func5, Tryd.ntmps5
    go_wp2_with (fail)
    refine (qencode s _ (by omega)).mono ?_
    rintro e W1 ⟨rfl, h1⟩
    rw [← K.out.1]
    have H1 := Lib.hid h1
    clear h1
    go_wp2_with (fail)
    refine (qencode t _ (by omega)).mono ?_
    rintro e W2 ⟨rfl, h2⟩
    rw [← K.out.2.1]
    have H2 := Lib.hid (gr_call H1.out h2)
    clear h2
    go_wp2_with (fail)
    refine (pdecode a _ (by omega)).mono ?_
    rintro e W3 ⟨rfl, h3⟩
    rw [(rOk K.out.2.2.1).1, (rOk K.out.2.2.1).2.1, K.out.2.2.2.1]
    have H3 := Lib.hid (gr_alloc (gr_call H2.out h3) (.cells #[.int .i64 0, .int .i64 0] 40))
    have F3 := Lib.hid (Blk.new W3 40 #[.int .i64 0, .int .i64 0])
    clear h3
    go_wp2_with (fail)
    refine (qliteral a _ (by omega)).mono ?_
    rintro e W4 ⟨rfl, h4⟩
    rw [K.out.2.2.2.2.1]
    have k4 := F3.out.call h4
    have f0 := k4.cell' (i := 0) rfl
    have fl := k4.lt
    have H4 := Lib.hid (gr_call H3.out h4)
    clear h4 k4
    go_wp2_with (fail)
    refine (qencode (s ++ t) _ hst).mono ?_
    rintro e W5 ⟨rfl, h5⟩
    rw [K.out.2.2.2.2.2]
    have H5 := Lib.hid (gr_call H4.out h5)
    clear h5 f0 fl
    go_wp2_with (fail)
    refine (lawake _ (HM.out.below H5.out (Nat.le_refl _))).mono ?_
    rintro e W6 ⟨rfl, h6⟩
    have H6 := Lib.hid (gr_call H5.out h6)
    clear h6
    go_wp2_with (fail)
    go_ret
    exact ⟨rfl, H6.out⟩

set_option maxRecDepth 100000 in
set_option maxHeartbeats 8000000 in
theorem law_appends (q m : ByteArray) (wq : q.size ≤ 9223372036854775807) (wm : m.size ≤ 9223372036854775807) (w : World) (hm : MaxOk w) :
    Calls Tryd.prog 3 #[.string q, .string m] w fun e W' => e = .returned (.bool true) ∧ Below w.heap.size w W' := by
  obtain ⟨i1, hi1, hz10, hz11, hz12⟩ := info_parts infoPair
  have HM := Lib.hid hm
  clear hm
  by_cases h0 : 128 < q.size ∨ 128 < m.size
  · rcases (show (128 : Int) < q.size ∨ (¬ (128 : Int) < q.size ∧ (128 : Int) < m.size) by omega) with h | ⟨h, h'⟩
    all_goals
      clear h0
      go_enter Tryd.func3, Tryd.ntmps3
      go_wp2_with (fail)
      refine (lawake _ HM.out).mono ?_
      rintro e W1 ⟨rfl, h1⟩
      have H1 := Lib.hid h1
      clear h1
      go_wp2_with (fail)
      go_ret
      exact ⟨rfl, H1.out⟩
  · have h0' : ¬ (128 : Int) < q.size := by omega
    have h0'' : ¬ (128 : Int) < m.size := by omega
    have hqq : q.size ≤ 128 := by omega
    have hmm : m.size ≤ 128 := by omega
    clear h0
    go_enter Tryd.func3, Tryd.ntmps3
    go_wp2_with (fail)
    refine (qappend q m (by omega) (by omega) _).mono ?_
    rintro e W1 ⟨rfl, h1⟩
    by_cases he : appE q.data.toList m.data.toList = 0
    · obtain ⟨e1, e2, e3, e4, e5⟩ := app_law he
      rw [he]
      obtain ⟨s, hs⟩ : ∃ s, s = appS q.data.toList m.data.toList := ⟨_, rfl⟩
      rw [← hs] at e3 e4 e5 ⊢
      have hsz : (128 : Int) ≥ (s.size : Int) := by omega
      have p1 : pairsQ q.data.toList = pairsL q.data.toList := by unfold pairsQ; rw [if_pos e1]
      have p2 : pairsQ m.data.toList = pairsL m.data.toList := by unfold pairsQ; rw [if_pos e2]
      have p3 : pairsQ s.data.toList = pairsL m.data.toList ++ pairsL q.data.toList := by unfold pairsQ; rw [if_pos e3, e4]
      have n1 := pairsQ_small q
      have n2 := pairsQ_small m
      have n3 := pairsQ_small s
      rw [p1] at n1
      rw [p2] at n2
      have n3' : (pairsL m.data.toList ++ pairsL q.data.toList).length ≤ 129 := by rw [← p3]; omega
      have K := Lib.hid (And.intro h1 (And.intro e1 (And.intro e2 (And.intro e3 (And.intro p1 (And.intro p2 p3))))))
      clear he e1 e2 e3 e4 hs p1 p2 p3 h1
      go_wp2_with (fail)
      refine (qpairs q (by omega) _ (HM.out.below K.out.1 (Nat.le_refl _))).mono ?_
      rintro e W2 ⟨v, rfl, hown, h2⟩
      rw [K.out.2.1]
      rw [K.out.2.2.2.2.1] at hown
      obtain ⟨A2, c2, rfl, hc2, ok2⟩ := own_cellsP hown
      have H2 := Lib.hid (And.intro (gr_call K.out.1 h2) (And.intro hc2 ok2))
      clear hown h2 hc2 ok2
      go_wp2_with (fail)
      refine (qpairs m (by omega) _ (HM.out.below H2.out.1 (Nat.le_refl _))).mono ?_
      rintro e W3 ⟨v, rfl, hown, h3⟩
      rw [K.out.2.2.1]
      rw [K.out.2.2.2.2.2.1] at hown
      obtain ⟨A3, c3, rfl, hc3, ok3⟩ := own_cellsP hown
      have H3 := Lib.hid (And.intro (gr_call H2.out.1 h3) (And.intro (H2.out.2.1.below h3) (And.intro hc3 ok3)))
      clear hown h3 hc3 ok3
      go_wp2_with (fail)
      refine (qpairs s (by omega) _ (HM.out.below H3.out.1 (Nat.le_refl _))).mono ?_
      rintro e W4 ⟨v, rfl, hown, h4⟩
      rw [K.out.2.2.2.1]
      rw [K.out.2.2.2.2.2.2] at hown
      obtain ⟨A4, c4, rfl, hc4, _⟩ := own_cellsP hown
      have H4 := Lib.hid (And.intro (gr_call H3.out.1 h4) (And.intro (H3.out.2.1.below h4) (And.intro (H3.out.2.2.1.below h4) hc4)))
      clear hown h4 hc4
      go_wp2_with (fail)
      refine (lown _ (by omega) A3 c3 _ H4.out.2.2.1 H3.out.2.2.2).mono ?_
      rintro e W5 ⟨v5, rfl, own5, h5⟩
      have hz5 : W4.heap.size ≤ W5.heap.size := h5.size
      have q5 := H4.out.2.1.below h5
      have H5 := Lib.hid (And.intro (gr_call H4.out.1 h5) h5)
      clear h5
      obtain ⟨nq, hnq⟩ : ∃ n, n = (pairsL q.data.toList).length := ⟨_, rfl⟩
      have okq := H2.out.2.2
      rw [← hnq] at n1 q5 okq
      rw [← hnq]
      have HN := Lib.hid hnq
      clear hnq
      obtain ⟨nm, hnm⟩ : ∃ n, n = (pairsL m.data.toList).length := ⟨_, rfl⟩
      unfold OwnP at own5
      rw [← hnm] at own5 n2
      have HNm := Lib.hid hnm
      clear hnm
      go_wp2_with (at_builtin; go_loud (refine append_more (by first | rfl | simp [Region.wanted, yielded]) _ _ 26 rfl W4.heap.size 44 i1 _ 3 40 Tryd.underlying26 hi1 hz10 hz11 hz12 rfl (by decide) v5 nm _ rfl own5 A2 nq c2 (prAt (pairsL q.data.toList)) rfl okq q5 (prAt_one _) ?c3 ?c4 ?c5 ?_))
      case c3 => unfold maxLen; omega
      case c4 => omega
      case c5 => exact hz5
      intro v6 W6 hown6 hgrow6
      have b6 : Below W4.heap.size W5 W6 := (Below.refl W4.heap.size W5).grown hgrow6 hz5 (fun k hk => (own5.lt k hk).1)
      have hl6 : nm + nq = (pairsL m.data.toList ++ pairsL q.data.toList).length := by rw [List.length_append, HN.out, HNm.out]
      have ho6 : OwnP W6 W4.heap.size v6 (pairsL m.data.toList ++ pairsL q.data.toList) := by
        unfold OwnP
        rw [← hl6]
        have e : flatP (pairsL m.data.toList ++ pairsL q.data.toList) = flatP (pairsL m.data.toList) ++ flatC (prAt (pairsL q.data.toList)) 3 nq := by
          rw [HN.out, ← flatP_flatC]
          unfold flatP
          rw [List.flatMap_append]
        rw [e]
        exact hown6
      obtain ⟨A6, c6, rfl, hc6, _⟩ := own_cellsP ho6
      have hbig : Below W4.heap.size W4 W6 := H5.out.2.trans b6
      have H6 := Lib.hid (And.intro (gr_call H4.out.1 hbig) (And.intro (H4.out.2.2.2.below hbig) hc6))
      have hcall := fun (X Y : Nat) (hX : X = (pairsL m.data.toList ++ pairsL q.data.toList).length) (hY : Y = (pairsL m.data.toList ++ pairsL q.data.toList).length) => (by
        subst hX hY
        exact lsame _ (by omega) A4 A6 c4 c6 _ H6.out.2.1 H6.out.2.2 : Calls Tryd.prog 13 #[.slice A4 X c4, .slice A6 Y c6] W6 fun e W' => e = .returned (.bool true) ∧ Below W6.heap.size W6 W')
      have HC := Lib.hid hcall
      have hs128 : (s.size : Int) ≤ 128 := by omega
      clear hown6 hgrow6 b6 ho6 hc6 hbig own5 q5 hcall hl6
      go_wp2_with (fail)
      refine (HC.out _ _ (by have x1 := HN.out; have x2 := HNm.out; first | (simp only [List.length_append]; done) | (simp only [List.length_append]; omega) | omega) (by have x1 := HN.out; have x2 := HNm.out; first | (simp only [List.length_append]; done) | (simp only [List.length_append]; omega) | omega)).mono ?_
      rintro e W7 ⟨rfl, h7⟩
      have H7 := Lib.hid (gr_call H6.out.1 h7)
      clear h7
      go_wp2_with (fail)
      refine (lawake _ (HM.out.below H7.out (Nat.le_refl _))).mono ?_
      rintro e W8 ⟨rfl, h8⟩
      have H8 := Lib.hid (gr_call H7.out h8)
      clear h8
      go_wp2_with (fail)
      go_ret
      exact ⟨rfl, H8.out⟩
    · have hne : (appE q.data.toList m.data.toList != 0) = true := by simpa using he
      have H1 := Lib.hid h1
      clear he h1
      go_wp2_with (fail)
      refine (lawake _ (HM.out.below H1.out (Nat.le_refl _))).mono ?_
      rintro e W2 ⟨rfl, h2⟩
      have H2 := Lib.hid (gr_call H1.out h2)
      clear h2
      go_wp2_with (fail)
      go_ret
      exact ⟨rfl, H2.out⟩
end Go.Proofs.YtfbkbnojbbpopaaDoor
