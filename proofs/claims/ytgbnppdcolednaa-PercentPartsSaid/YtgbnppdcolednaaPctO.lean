/-
  percent.Cut and percent.Offset: as the plain functions say; condition: strings of at most 1000000000 bytes.
-/
import Derived.Test.YtgbnppdcolednaaPctD
namespace Go.Proofs.Ytgbnppdcolednaa
open Go.RowKit
set_option linter.unusedVariables false
set_option linter.unusedSimpArgs false

def CutPost (s : ByteArray) (n : Int) (w : World) (e : Ending) (w' : World) : Prop :=
  e = .returned (.tuple #[.string (cutS s n), .int .i64 (cutE s n)]) ∧ Below w.heap.size w w'

def CurRel (s : ByteArray) (n : Nat) (w0 : World) (g : Nat) (k : Nat) (last : Value) (wr : World) : Prop :=
  ∃ i : Nat, k = s.size - i ∧ i ≤ s.size ∧ i ≤ n ∧ last = .int .i64 (i : Int) ∧ okL (s.data.toList.drop i) ∧ i + cutL (s.data.toList.drop i) (n - i) = cutL s.data.toList n ∧
    Blk wr g 53 #[.string s, .int .i64 (i : Int)] ∧ Below w0.heap.size w0 wr

set_option maxRecDepth 100000 in
set_option maxHeartbeats 1000000 in
theorem pcut_ok (s : ByteArray) (n : Nat) (w : World) (hs : s.size ≤ 1000000000) (ho : okS s) :
    Calls Try.prog 11 #[.string s, .int .i64 (n : Int)] w fun e w' => e = .returned (.tuple #[.string (s.extract 0 (cutL s.data.toList n)), .int .i64 0]) ∧ Below w.heap.size w w' := by
  obtain ⟨e1, e2, e3, e4⟩ := rOk ho
  have hL := Lib.hid (okS_L.1 ho)
  clear e3 e4 ho
  go_enter Try.func11, Try.ntmps11
  go_wp2_with (go_at_call 30; refine (pread s _ hs).mono ?_)
  rintro e w1 ⟨g, v, rfl, hblk, hown, hg, hbel⟩
  clear hblk hown hg
  go_wp2_with (fail)
  go_loopg [9] s.size (fun k last wr => CurRel s n w (w1.heap.size + 1) k last wr)
  case atStart =>
    have hz : (w1.alloc (.cells #[.int .i64 0, .int .i64 0] 33)).heap.size = w1.heap.size + 1 := World.size_alloc _ _
    refine ⟨0, rfl, Nat.zero_le _, Nat.zero_le _, rfl, hL.out, by simp, ?_, (hbel.alloc hbel.size _).alloc (by rw [hz]; have := hbel.size; omega) _⟩
    have := Blk.new (w1.alloc (.cells #[.int .i64 0, .int .i64 0] 33)) 53 #[.string s, .int .i64 0]
    rw [hz] at this
    exact this
  case round =>
    obtain ⟨i, hk, his, hin, rfl, hok, hcut, hblk, hbr⟩ := hrel
    have h0 := hblk.cell' (i := 0) (v := .string s) rfl
    have h1 := hblk.cell' (i := 1) (v := .int .i64 (i : Int)) rfl
    have hlz := hblk.lt
    have hwz := hbel.size
    have hi0 : (0 : Int) ≤ i := by omega
    by_cases hlt : i < s.size
    · rcases ok_cases _ hok with hd | ⟨a, t, hd, ha, hok'⟩ | ⟨b, c, u, hd, hb, hc, hok'⟩
      · rw [drop_at s i hlt] at hd; cases hd
      · have hdd := hd
        rw [drop_at s i hlt] at hdd
        obtain ⟨rfl, rfl⟩ := List.cons.inj hdd
        clear hd hdd
        have hd := drop_at s i hlt
        have ha := Lib.hid ha
        have H := Lib.hid (And.intro hcut (And.intro hblk (And.intro hbr (And.intro hk (And.intro hok' hd)))))
        clear hcut hblk hbr hk hok hok' hd
        by_cases hle : i + 1 ≤ n
        · have hle' : (i : Int) + 1 ≤ n := by omega
          go_wp2_with (go_at_call 31; refine (pmore_yes s _ i _ hlt (by exact h0) (by exact h1)).mono ?_; rintro e w' ⟨rfl, nq0, rfl⟩)
          refine (pnext_plain s _ i _ _ _ hs hlt ha.out (by exact H.out.2.1) rfl rfl).mono ?_
          rintro e W2 ⟨rfl, hblk2, hg2⟩
          have hblk2 : Blk W2 (w1.heap.size + 1) 53 #[.string s, .int .i64 ((i : Int) + 1)] := hblk2
          have k1 := hblk2.cell' (i := 1) (v := .int .i64 ((i : Int) + 1)) rfl
          have K := Lib.hid (And.intro hblk2 hg2)
          clear hblk2 hg2
          go_wp2_with (fail)
          go_roundg (s.size - (i + 1))
          case measure => have := H.out.2.2.2.1; omega
          case rel =>
            obtain ⟨hcut, hblk, hbr, hk, hok', hd⟩ := H.out
            refine ⟨i + 1, rfl, hlt, hle, rfl, hok', ?_, K.out.1, (below_drewN hbr nq0).grown K.out.2 (by have := hbr.size; simpa using this) (by simp; omega)⟩
            rw [← hcut, hd]
            rw [cutL_plain _ _ _ ha.out]
            rw [if_pos (by omega), show n - i - 1 = n - (i + 1) from by omega]
            omega
        · have hle' : (n : Int) < (i : Int) + 1 := by omega
          go_wp2_with (go_at_call 31; refine (pmore_yes s _ i _ hlt (by exact h0) (by exact h1)).mono ?_; rintro e w' ⟨rfl, nq0, rfl⟩)
          refine (pnext_plain s _ i _ _ _ hs hlt ha.out (by exact H.out.2.1) rfl rfl).mono ?_
          rintro e W2 ⟨rfl, hblk2, hg2⟩
          have hblk2 : Blk W2 (w1.heap.size + 1) 53 #[.string s, .int .i64 ((i : Int) + 1)] := hblk2
          have k1 := hblk2.cell' (i := 1) (v := .int .i64 ((i : Int) + 1)) rfl
          have K := Lib.hid (And.intro hblk2 hg2)
          clear hblk2 hg2
          go_wp2_with (fail)
          go_ret2
          obtain ⟨hcut, hblk, hbr, hk, hok', hd⟩ := H.out
          have hc : cutL s.data.toList n = i := by
            rw [← hcut, hd]
            rw [cutL_plain _ _ _ ha.out]
            rw [if_neg (by omega)]
            omega
          exact ⟨by rw [hc]; rfl, (below_drewN hbr nq0).grown K.out.2 (by have := hbr.size; simpa using this) (by simp; omega)⟩
      · have hu : s.data.toList.drop (i + 3) = u := by rw [← List.drop_drop, hd]; rfl
        have h3 : i + 3 ≤ s.size := by
          have := congrArg List.length hd
          simp only [List.length_drop, size_data, List.length_cons] at this
          omega
        rw [← hu] at hok'
        have HE := Lib.hid (And.intro hd (And.intro hb hc))
        clear hb hc
        have H := Lib.hid (And.intro hcut (And.intro hblk (And.intro hbr (And.intro hk (And.intro hok' hd)))))
        clear hcut hblk hbr hk hok hok' hd
        by_cases hle : i + 3 ≤ n
        · have hle' : (i : Int) + 3 ≤ n := by omega
          go_wp2_with (go_at_call 31; refine (pmore_yes s _ i _ hlt (by exact h0) (by exact h1)).mono ?_; rintro e w' ⟨rfl, nq0, rfl⟩)
          refine (pnext_esc s _ i _ _ b c u _ hs hlt HE.out.1 HE.out.2.1 HE.out.2.2 (by exact H.out.2.1) rfl rfl).mono ?_
          rintro e W2 ⟨rfl, hblk2, hg2⟩
          have hblk2 : Blk W2 (w1.heap.size + 1) 53 #[.string s, .int .i64 ((i : Int) + 3)] := hblk2
          have k1 := hblk2.cell' (i := 1) (v := .int .i64 ((i : Int) + 3)) rfl
          have K := Lib.hid (And.intro hblk2 hg2)
          clear hblk2 hg2
          go_wp2_with (fail)
          go_roundg (s.size - (i + 3))
          case measure => have := H.out.2.2.2.1; omega
          case rel =>
            obtain ⟨hcut, hblk, hbr, hk, hok', hd⟩ := H.out
            refine ⟨i + 3, rfl, h3, hle, rfl, hok', ?_, K.out.1, (below_drewN hbr nq0).grown K.out.2 (by have := hbr.size; simpa using this) (by simp; omega)⟩
            rw [← hcut, hd]
            rw [cutL_esc]
            rw [hu, if_pos (by omega), show n - i - 3 = n - (i + 3) from by omega]
            omega
        · have hle' : (n : Int) < (i : Int) + 3 := by omega
          go_wp2_with (go_at_call 31; refine (pmore_yes s _ i _ hlt (by exact h0) (by exact h1)).mono ?_; rintro e w' ⟨rfl, nq0, rfl⟩)
          refine (pnext_esc s _ i _ _ b c u _ hs hlt HE.out.1 HE.out.2.1 HE.out.2.2 (by exact H.out.2.1) rfl rfl).mono ?_
          rintro e W2 ⟨rfl, hblk2, hg2⟩
          have hblk2 : Blk W2 (w1.heap.size + 1) 53 #[.string s, .int .i64 ((i : Int) + 3)] := hblk2
          have k1 := hblk2.cell' (i := 1) (v := .int .i64 ((i : Int) + 3)) rfl
          have K := Lib.hid (And.intro hblk2 hg2)
          clear hblk2 hg2
          go_wp2_with (fail)
          go_ret2
          obtain ⟨hcut, hblk, hbr, hk, hok', hd⟩ := H.out
          have hc : cutL s.data.toList n = i := by
            rw [← hcut, hd]
            rw [cutL_esc]
            rw [if_neg (by omega)]
            omega
          exact ⟨by rw [hc]; rfl, (below_drewN hbr nq0).grown K.out.2 (by have := hbr.size; simpa using this) (by simp; omega)⟩
    · have hd : s.data.toList.drop i = [] := drop_end s i (by omega)
      have H := Lib.hid (And.intro hcut (And.intro hd hbr))
      clear hcut hblk hbr hk hok hd
      go_wp2_with (go_at_call 31; refine (pmore_no s _ i _ hlt (by exact h0) (by exact h1)).mono ?_; rintro e w' ⟨rfl, nq0, rfl⟩)
      go_ret2
      obtain ⟨hcut, hd, hbr⟩ := H.out
      have hc : cutL s.data.toList n = i := by rw [← hcut, hd, cutL_nil]; omega
      exact ⟨by rw [hc]; rfl, below_drewN hbr _⟩

def OffRel (s : ByteArray) (n : Nat) (w0 : World) (g : Nat) (m : Nat) (kk : Value) (wr : World) : Prop :=
  ∃ i k : Nat, m = n - k ∧ k ≤ n ∧ i ≤ s.size ∧ kk = .int .i64 (k : Int) ∧ okL (s.data.toList.drop i) ∧ i + offL (s.data.toList.drop i) (n - k) = offL s.data.toList n ∧ n - k ≤ (scan (s.data.toList.drop i)).1.length ∧
    Blk wr g 53 #[.string s, .int .i64 (i : Int)] ∧ Below w0.heap.size w0 wr

set_option maxRecDepth 100000 in
set_option maxHeartbeats 1000000 in
theorem poff_ok (s : ByteArray) (n : Nat) (w : World) (hs : s.size ≤ 1000000000) (ho : okS s) (hn : n ≤ (scan s.data.toList).1.length) :
    Calls Try.prog 13 #[.string s, .int .i64 (n : Int)] w fun e w' => e = .returned (.tuple #[.int .i64 (offL s.data.toList n : Int), .int .i64 0]) ∧ Below w.heap.size w w' := by
  obtain ⟨e1, e2, e3, e4⟩ := rOk ho
  have hL := Lib.hid (okS_L.1 ho)
  have hN := Lib.hid hn
  have hle := scan_le s.data.toList
  rw [size_data] at hle
  have hd0 : decide ((n : Int) < 0) = false := by simp
  have hd1 : decide ((scan s.data.toList).1.length < n) = false := by simpa using hn
  clear e3 e4 ho
  go_enter Try.func13, Try.ntmps13
  go_wp2_with (go_at_call 30; refine (pread s _ hs).mono ?_)
  rintro e w1 ⟨g, v, rfl, hblk, hown, hg, hbel⟩
  obtain ⟨va, vc, rfl⟩ := own_slice hown
  have c1 := hblk.cell' (i := 2) (v := .slice va (scan s.data.toList).1.length vc) rfl
  have hgz := hblk.lt
  clear hblk hown hg
  go_wp2_with (fail)
  go_loopg [31] n (fun k kk wr => OffRel s n w (w1.heap.size + 1) k kk wr)
  case atStart =>
    have hz : (w1.alloc (.cells #[.int .i64 0, .int .i64 0] 33)).heap.size = w1.heap.size + 1 := World.size_alloc _ _
    refine ⟨0, 0, rfl, Nat.zero_le _, Nat.zero_le _, rfl, hL.out, by simp, hN.out, ?_, (hbel.alloc hbel.size _).alloc (by rw [hz]; have := hbel.size; omega) _⟩
    have := Blk.new (w1.alloc (.cells #[.int .i64 0, .int .i64 0] 33)) 53 #[.string s, .int .i64 0]
    rw [hz] at this
    exact this
  case round =>
    obtain ⟨i, k, hgk, hkn, his, rfl, hok, hoff, hlen, hblk, hbr⟩ := hrel
    have h0 := hblk.cell' (i := 0) (v := .string s) rfl
    have h1 := hblk.cell' (i := 1) (v := .int .i64 (i : Int)) rfl
    have hlz := hblk.lt
    have hwz := hbel.size
    by_cases hkl : k < n
    · have hlt : i < s.size := by
        rcases Nat.lt_or_ge i s.size with h | h
        · exact h
        · rw [drop_end s i h, scan_nil] at hlen; simp at hlen; omega
      rcases ok_cases _ hok with hd | ⟨a, t, hd, ha, hok'⟩ | ⟨b, c, u, hd, hb, hc, hok'⟩
      · rw [drop_at s i hlt] at hd; cases hd
      · have hdd := hd
        rw [drop_at s i hlt] at hdd
        obtain ⟨rfl, rfl⟩ := List.cons.inj hdd
        clear hd hdd
        have hd := drop_at s i hlt
        have ha := Lib.hid ha
        have H := Lib.hid (And.intro hoff (And.intro hblk (And.intro hbr (And.intro hgk (And.intro hok' (And.intro hd hlen))))))
        clear hoff hblk hbr hgk hok hok' hd hlen
        go_wp2_with (fail)
        refine (pnext_plain s _ i _ _ _ hs hlt ha.out (by exact H.out.2.1) rfl rfl).mono ?_
        rintro e W2 ⟨rfl, hblk2, hg2⟩
        have hblk2 : Blk W2 (w1.heap.size + 1) 53 #[.string s, .int .i64 ((i : Int) + 1)] := hblk2
        have K := Lib.hid (And.intro hblk2 hg2)
        clear hblk2 hg2
        go_wp2_with (fail)
        go_roundg (n - (k + 1))
        case measure => have := H.out.2.2.2.1; omega
        case rel =>
          obtain ⟨hoff, hblk, hbr, hgk, hok', hd, hlen⟩ := H.out
          rw [hd] at hlen hoff
          rw [scan_plain _ _ ha.out] at hlen
          rw [show n - k = (n - (k + 1)) + 1 from by omega, offL_plain _ _ _ ha.out] at hoff
          simp only [List.length_cons] at hlen
          refine ⟨i + 1, k + 1, rfl, by omega, hlt, rfl, hok', by omega, by omega, K.out.1, hbr.grown K.out.2 (by have := hbr.size; omega) (by simp; omega)⟩
      · have hu : s.data.toList.drop (i + 3) = u := by rw [← List.drop_drop, hd]; rfl
        have h3 : i + 3 ≤ s.size := by
          have := congrArg List.length hd
          simp only [List.length_drop, size_data, List.length_cons] at this
          omega
        rw [← hu] at hok'
        have HE := Lib.hid (And.intro hd (And.intro hb hc))
        clear hb hc
        have H := Lib.hid (And.intro hoff (And.intro hblk (And.intro hbr (And.intro hgk (And.intro hok' (And.intro hd hlen))))))
        clear hoff hblk hbr hgk hok hok' hd hlen
        go_wp2_with (fail)
        refine (pnext_esc s _ i _ _ b c u _ hs hlt HE.out.1 HE.out.2.1 HE.out.2.2 (by exact H.out.2.1) rfl rfl).mono ?_
        rintro e W2 ⟨rfl, hblk2, hg2⟩
        have hblk2 : Blk W2 (w1.heap.size + 1) 53 #[.string s, .int .i64 ((i : Int) + 3)] := hblk2
        have K := Lib.hid (And.intro hblk2 hg2)
        clear hblk2 hg2
        go_wp2_with (fail)
        go_roundg (n - (k + 1))
        case measure => have := H.out.2.2.2.1; omega
        case rel =>
          obtain ⟨hoff, hblk, hbr, hgk, hok', hd, hlen⟩ := H.out
          rw [hd] at hlen hoff
          rw [scan_esc _ _ _ HE.out.2] at hlen
          rw [show n - k = (n - (k + 1)) + 1 from by omega, offL_esc] at hoff
          simp only [List.length_cons] at hlen
          refine ⟨i + 3, k + 1, rfl, by omega, h3, rfl, hok', by rw [hu]; omega, by rw [hu]; omega, K.out.1, hbr.grown K.out.2 (by have := hbr.size; omega) (by simp; omega)⟩
    · have hke : k = n := by omega
      subst hke
      have H := Lib.hid (And.intro hoff hbr)
      clear hoff hblk hbr hgk hok hlen
      go_wp2_with (fail)
      go_ret2
      obtain ⟨hoff, hbr⟩ := H.out
      rw [Nat.sub_self, offL_zero] at hoff
      exact ⟨by rw [← hoff]; rfl, hbr⟩

set_option maxRecDepth 100000 in
set_option maxHeartbeats 1000000 in
theorem pcut (s : ByteArray) (n : Int) (w : World) (hs : s.size ≤ 1000000000) :
    Calls Try.prog 11 #[.string s, .int .i64 n] w (CutPost s n w) := by
  by_cases hn : n < 0
  · have E1 : Hid (cutS s n = ⟨#[]⟩ ∧ cutE s n = 2) := Lib.hid (by unfold cutS cutE; rw [if_pos hn, if_pos hn]; exact ⟨rfl, rfl⟩)
    go_enter Try.func11, Try.ntmps11
    go_wp2_with (fail)
    go_ret2
    exact ⟨by rw [E1.out.1, E1.out.2]; rfl, Below.refl _ _⟩
  · by_cases ho : okS s
    · obtain ⟨m, rfl⟩ := Int.eq_ofNat_of_zero_le (Int.not_lt.1 hn)
      refine (pcut_ok s m w hs ho).mono fun e w' h => ⟨?_, h.2⟩
      unfold cutS cutE
      rw [if_neg hn, if_pos ho, if_neg hn, if_pos ho, Int.toNat_natCast]
      exact h.1
    · have E1 : Hid (cutS s n = ⟨#[]⟩ ∧ cutE s n = 3) := Lib.hid (by unfold cutS cutE; rw [if_neg hn, if_neg hn, if_neg ho, if_neg ho]; exact ⟨rfl, rfl⟩)
      obtain ⟨e1, e2, e3, e4⟩ := rNo ho
      clear e2 e3 e4 ho
      go_enter Try.func11, Try.ntmps11
      go_wp2_with (go_at_call 30; refine (pread s _ hs).mono ?_)
      rintro e w1 ⟨g, v, rfl, hblk, hown, hg, hbel⟩
      clear hblk hown hg
      go_wp2_with (fail)
      go_ret2
      exact ⟨by rw [E1.out.1, E1.out.2]; rfl, hbel.alloc hbel.size _⟩

def OffPost (s : ByteArray) (n : Int) (w : World) (e : Ending) (w' : World) : Prop :=
  e = .returned (.tuple #[.int .i64 (offV s n), .int .i64 (offE s n)]) ∧ Below w.heap.size w w'

set_option maxRecDepth 100000 in
set_option maxHeartbeats 1000000 in
theorem poffset (s : ByteArray) (n : Int) (w : World) (hs : s.size ≤ 1000000000) :
    Calls Try.prog 13 #[.string s, .int .i64 n] w (OffPost s n w) := by
  by_cases hn : n < 0
  · have E1 : Hid (offV s n = 0 ∧ offE s n = 2) := Lib.hid (by unfold offV offE; rw [if_pos hn, if_pos hn]; exact ⟨rfl, rfl⟩)
    go_enter Try.func13, Try.ntmps13
    go_wp2_with (fail)
    go_ret2
    exact ⟨by rw [E1.out.1, E1.out.2]; rfl, Below.refl _ _⟩
  · by_cases ho : okS s
    · by_cases hl : n ≤ ((scan s.data.toList).1.length : Int)
      · obtain ⟨m, rfl⟩ := Int.eq_ofNat_of_zero_le (Int.not_lt.1 hn)
        refine (poff_ok s m w hs ho (by omega)).mono fun e w' h => ⟨?_, h.2⟩
        unfold offV offE
        rw [if_neg hn, if_pos ho, if_pos hl, if_neg hn, if_pos ho, if_pos hl, Int.toNat_natCast]
        exact h.1
      · have E1 : Hid (offV s n = 0 ∧ offE s n = 2) := Lib.hid (by unfold offV offE; rw [if_neg hn, if_pos ho, if_neg hl, if_neg hn, if_pos ho, if_neg hl]; exact ⟨rfl, rfl⟩)
        have hl' : ((scan s.data.toList).1.length : Int) < n := by omega
        obtain ⟨e1, e2, e3, e4⟩ := rOk ho
        clear e2 e3 e4 ho hl
        go_enter Try.func13, Try.ntmps13
        go_wp2_with (go_at_call 30; refine (pread s _ hs).mono ?_)
        rintro e w1 ⟨g, v, rfl, hblk, hown, hg, hbel⟩
        obtain ⟨va, vc, rfl⟩ := own_slice hown
        have c1 := hblk.cell' (i := 2) (v := .slice va (scan s.data.toList).1.length vc) rfl
        have hgz := hblk.lt
        clear hblk hown hg
        go_wp2_with (fail)
        go_ret2
        exact ⟨by rw [E1.out.1, E1.out.2]; rfl, hbel.alloc hbel.size _⟩
    · have E1 : Hid (offV s n = 0 ∧ offE s n = 3) := Lib.hid (by unfold offV offE; rw [if_neg hn, if_neg hn, if_neg ho, if_neg ho]; exact ⟨rfl, rfl⟩)
      obtain ⟨e1, e2, e3, e4⟩ := rNo ho
      clear e2 e3 e4 ho
      go_enter Try.func13, Try.ntmps13
      go_wp2_with (go_at_call 30; refine (pread s _ hs).mono ?_)
      rintro e w1 ⟨g, v, rfl, hblk, hown, hg, hbel⟩
      clear hblk hown hg
      go_wp2_with (fail)
      go_ret2
      exact ⟨by rw [E1.out.1, E1.out.2]; rfl, hbel.alloc hbel.size _⟩
end Go.Proofs.Ytgbnppdcolednaa
