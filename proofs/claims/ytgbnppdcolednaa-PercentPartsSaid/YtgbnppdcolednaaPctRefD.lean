/-
  The reference of percent, last part: Length, Canonical, Is, Escapes, Cut, Offset; condition: strings of at most 1000000000 bytes.
-/
import Derived.Test.YtgbnppdcolednaaPctRefB
import Derived.Test.YtgbnppdcolednaaPctRefC
import Derived.Test.YtgbnppdcolednaaPctO
namespace Go.Proofs.Ytgbnppdcolednaa
open Go.RowKit
set_option linter.unusedVariables false
set_option linter.unusedSimpArgs false

set_option maxRecDepth 100000 in
set_option maxHeartbeats 1000000 in
theorem rlength (S : Nat → Nat) (hS : ∀ k, S k < 2 ^ 64) (s : ByteArray) (w : World) (hs : s.size ≤ 1000000000) :
    Calls Try.prog 24 #[.string s, .agg #[.int .u64 (S 0 : Int), .int .u64 (S 1 : Int), .int .u64 (S 2 : Int), .int .u64 (S 3 : Int)]] w fun e w' => e = .returned (.int .i64 ((encS S s).size : Int)) ∧ Below w.heap.size w w' := by
  have hS := Lib.hid hS
  go_enter Try.func24, Try.ntmps24
  go_wp2_with (go_at_call 22; refine (rencode S hS.out _ _ hs).mono ?_; rintro e w1 ⟨rfl, hbel⟩)
  go_ret
  exact ⟨rfl, ((Below.refl _ _).alloc (Nat.le_refl _) _).trans (hbel.mono (by simp))⟩

set_option maxRecDepth 100000 in
set_option maxHeartbeats 1000000 in
theorem rcanonical (S : Nat → Nat) (hS : ∀ k, S k < 2 ^ 64) (s : ByteArray) (w : World) (hs : s.size ≤ 1000000000) :
    Calls Try.prog 18 #[.string s, .agg #[.int .u64 (S 0 : Int), .int .u64 (S 1 : Int), .int .u64 (S 2 : Int), .int .u64 (S 3 : Int)]] w (CanPost S s w) := by
  have hz := rOut_size s
  have hS := Lib.hid hS
  by_cases ho : okS s
  · obtain ⟨e1, e2, e3, e4⟩ := rOk ho
    have E3 : Hid (canS S s = encS S (rOut s)) := Lib.hid (by unfold canS; rw [if_pos ho])
    clear e3 e4 ho
    go_enter Try.func18, Try.ntmps18
    go_wp2_with (go_at_call 16; refine (rdecode s _ hs).mono ?_)
    rintro e w1 ⟨rfl, hbel⟩
    have hb0 := ((Blk.new w 31 #[.int .u64 (S 0 : Int), .int .u64 (S 1 : Int), .int .u64 (S 2 : Int), .int .u64 (S 3 : Int)]).alloc (.cells #[.int .i64 0, .int .i64 0] 33)).below hbel (by simp; omega)
    have hb1 : Blk w1 (w.heap.size + 1) 33 #[.int .i64 0, .int .i64 0] := by simpa using (Blk.new (w.alloc (.cells #[.int .u64 (S 0 : Int), .int .u64 (S 1 : Int), .int .u64 (S 2 : Int), .int .u64 (S 3 : Int)] 31)) 33 #[.int .i64 0, .int .i64 0]).below hbel (by simp)
    have hz1 : w.heap.size + 1 < w1.heap.size := by have := hbel.size; simp at this; omega
    have hz0 : w.heap.size < w1.heap.size := by omega
    have a0 := hb0.cell' (i := 0) (v := .int .u64 (S 0 : Int)) rfl
    have a1 := hb0.cell' (i := 1) (v := .int .u64 (S 1 : Int)) rfl
    have a2 := hb0.cell' (i := 2) (v := .int .u64 (S 2 : Int)) rfl
    have a3 := hb0.cell' (i := 3) (v := .int .u64 (S 3 : Int)) rfl
    have H1 : Below w.heap.size w w1 := (((Below.refl _ _).alloc (Nat.le_refl _) _).alloc (by simp) _).trans (hbel.mono (by simp; omega))
    have H := Lib.hid (And.intro H1 (And.intro hb0 hb1))
    clear hbel hb0 hb1 H1
    have c0 := (H.out.2.2).cell' (i := 0) (v := .int .i64 0) rfl
    have c1 := (H.out.2.2).cell' (i := 1) (v := .int .i64 0) rfl
    have f0 := (H.out.2.2).frozen 0
    have f1 := (H.out.2.2).frozen 1
    go_wp2_with (fail)
    refine (rencode S hS.out _ _ (by omega)).mono ?_
    rintro e W2 ⟨rfl, hw2⟩
    obtain ⟨q1, q2⟩ := bcell hw2
    have q3 := hw2.size
    simp at q1 q2 q3
    go_wp2
    refine bodyPost_ret (v := .tuple #[.string (encS S (rOut s)), .agg #[.int .i64 0, .int .i64 0]]) (by simp [results, Try.results18, go_sem, q1, q3, hz0, hz1, c0, c1]) rfl ?_
    refine ⟨by rw [E3.out, e1, e2], ?_⟩
    have h2 : Below w.heap.size w W2 := (H.out.1.alloc (by omega) _).trans (hw2.mono (by show w.heap.size ≤ (w1.alloc _).heap.size; rw [World.size_alloc]; omega))
    repeat (first | exact h2 | refine below_drewN ?_ _ | refine Below.drew ?_ | refine Below.setCell ?_ (by simp) _)
  · obtain ⟨e1, e2, e3, e4⟩ := rNo ho
    have E3 : Hid (canS S s = ⟨#[]⟩) := Lib.hid (by unfold canS; rw [if_neg ho])
    clear e3 e4 ho e2
    go_enter Try.func18, Try.ntmps18
    go_wp2_with (go_at_call 16; refine (rdecode s _ hs).mono ?_)
    rintro e w1 ⟨rfl, hbel⟩
    have hb1 : Blk w1 (w.heap.size + 1) 33 #[.int .i64 0, .int .i64 0] := by simpa using (Blk.new (w.alloc (.cells #[.int .u64 (S 0 : Int), .int .u64 (S 1 : Int), .int .u64 (S 2 : Int), .int .u64 (S 3 : Int)] 31)) 33 #[.int .i64 0, .int .i64 0]).below hbel (by simp)
    have hz1 : w.heap.size + 1 < w1.heap.size := by have := hbel.size; simp at this; omega
    have hz0 : w.heap.size < w1.heap.size := by omega
    have H1 : Below w.heap.size w w1 := (((Below.refl _ _).alloc (Nat.le_refl _) _).alloc (by simp) _).trans (hbel.mono (by simp; omega))
    have c0 := hb1.cell' (i := 0) (v := .int .i64 0) rfl
    have c1 := hb1.cell' (i := 1) (v := .int .i64 0) rfl
    have f0 := hb1.frozen 0
    have f1 := hb1.frozen 1
    have H := Lib.hid H1
    clear hbel hb1 H1
    go_wp2_with (fail)
    go_region
    all_goals go_wp2
    refine bodyPost_ret (v := .tuple #[.string ⟨#[]⟩, .agg #[.int .i64 3, .int .i64 (rAt s)]]) (by simp [results, Try.results18, go_sem, hz1, c0, c1]) rfl ?_
    refine ⟨by rw [E3.out, e1], ?_⟩
    have h2 := H.out
    repeat (first | exact h2 | refine below_drewN ?_ _ | refine Below.drew ?_ | refine Below.setCell ?_ (by simp) _ | refine Below.alloc ?_ (by simp; omega) _)

set_option maxRecDepth 100000 in
set_option maxHeartbeats 1000000 in
theorem ris (S : Nat → Nat) (hS : ∀ k, S k < 2 ^ 64) (s : ByteArray) (w : World) (hs : s.size ≤ 1000000000) :
    Calls Try.prog 26 #[.string s, .agg #[.int .u64 (S 0 : Int), .int .u64 (S 1 : Int), .int .u64 (S 2 : Int), .int .u64 (S 3 : Int)]] w fun e w' => e = .returned (.bool (decide (okS s) && decide (canS S s = s))) ∧ Below w.heap.size w w' := by
  have hS := Lib.hid hS
  have eo := okS_err s
  by_cases ho : okS s
  · simp only [ho, decide_true] at eo
    have HO := Lib.hid ho
    go_enter Try.func26, Try.ntmps26
    go_wp2_with (go_at_call 18; refine (rcanonical S hS.out s _ hs).mono ?_; rintro e w1 ⟨rfl, hbel⟩)
    go_ret
    have h2 : Below w.heap.size w w1 := ((Below.refl _ _).alloc (Nat.le_refl _) _).trans (hbel.mono (by simp))
    exact ⟨ret_bool (by rw [str_beq]; simp [HO.out]), h2.alloc h2.size _⟩
  · simp only [ho, decide_false] at eo
    have HO := Lib.hid ho
    go_enter Try.func26, Try.ntmps26
    go_wp2_with (go_at_call 18; refine (rcanonical S hS.out s _ hs).mono ?_; rintro e w1 ⟨rfl, hbel⟩)
    go_ret
    have h2 : Below w.heap.size w w1 := ((Below.refl _ _).alloc (Nat.le_refl _) _).trans (hbel.mono (by simp))
    exact ⟨ret_bool (by simp [HO.out]), h2.alloc h2.size _⟩

set_option maxRecDepth 100000 in
set_option maxHeartbeats 1000000 in
theorem rescapes (s : ByteArray) (w : World) (hs : s.size ≤ 1000000000) :
    Calls Try.prog 20 #[.string s] w (EscPost s w) := by
  have hzz := rOut_size s
  by_cases ho : okS s
  · obtain ⟨e1, e2, e3, e4⟩ := rOk ho
    have hsl := scan_le s.data.toList
    have hos : (scan s.data.toList).2.1 = s.size := ho
    have hro : (rOut s).size = (scan s.data.toList).1.length := by rw [e3, ← size_data]
    have hdv : (((s.size : Int) - ((rOut s).size : Int)) / 2) = ((scan s.data.toList).2.2 : Int) := by omega
    have E4 := Lib.hid (And.intro e4 hdv)
    clear e3 e4 ho hsl hos hro hdv
    go_enter Try.func20, Try.ntmps20
    go_wp2_with (go_at_call 16; refine (rdecode s _ hs).mono ?_)
    rintro e w1 ⟨rfl, hbel⟩
    have hz : w.heap.size < w1.heap.size := by have := hbel.size; simp at this; omega
    have hf0 := (Blk.new w 33 #[.int .i64 0, .int .i64 0]).below hbel (by simp)
    have d0 := hf0.cell' (i := 0) (v := .int .i64 0) rfl
    have d1 := hf0.cell' (i := 1) (v := .int .i64 0) rfl
    have f0 := hf0.frozen 0
    have f1 := hf0.frozen 1
    have hbel' := Lib.hid (((Below.refl _ _).alloc (Nat.le_refl _) _).trans (hbel.mono (by simp)))
    clear hbel hf0
    go_wp2
    refine bodyPost_ret (v := .tuple #[.int .i64 (((s.size : Int) - ((rOut s).size : Int)) / 2), .agg #[.int .i64 0, .int .i64 0]]) (by simp [results, Try.results20, go_sem, d0, d1, hz]) rfl ?_
    exact ⟨by rw [E4.out.1, E4.out.2, e1, e2], ((hbel'.out.setCell (by simp) _).setCell (by simp) _).alloc (by simp; omega) _⟩
  · obtain ⟨e1, e2, e3, e4⟩ := rNo ho
    have E4 := Lib.hid e4
    have E2 := Lib.hid e2
    clear e3 e4 ho e2
    go_enter Try.func20, Try.ntmps20
    go_wp2_with (go_at_call 16; refine (rdecode s _ hs).mono ?_)
    rintro e w1 ⟨rfl, hbel⟩
    have hz : w.heap.size < w1.heap.size := by have := hbel.size; simp at this; omega
    have hf0 := (Blk.new w 33 #[.int .i64 0, .int .i64 0]).below hbel (by simp)
    have d0 := hf0.cell' (i := 0) (v := .int .i64 0) rfl
    have d1 := hf0.cell' (i := 1) (v := .int .i64 0) rfl
    have f0 := hf0.frozen 0
    have f1 := hf0.frozen 1
    have hbel' := Lib.hid (((Below.refl _ _).alloc (Nat.le_refl _) _).trans (hbel.mono (by simp)))
    clear hbel hf0
    go_wp2_with (fail)
    go_region
    all_goals go_wp2
    refine bodyPost_ret (v := .tuple #[.int .i64 0, .agg #[.int .i64 3, .int .i64 (rAt s)]]) (by simp [results, Try.results20, go_sem, d0, d1, hz]) rfl ?_
    exact ⟨by rw [E4.out, e1], below_drewN (((hbel'.out.setCell (by simp) _).setCell (by simp) _).alloc (by simp; omega) _) 1⟩

set_option maxRecDepth 100000 in
set_option maxHeartbeats 1000000 in
theorem rasked (s : ByteArray) (n : Int) (w : World) (hs : s.size ≤ 1000000000) :
    Calls Try.prog 33 #[.string s, .int .i64 n] w fun e w' => e = .returned (.int .i64 (cutE s n)) ∧ Below w.heap.size w w' := by
  by_cases hn : n < 0
  · have E1 : Hid (cutE s n = 2) := Lib.hid (by unfold cutE; rw [if_pos hn])
    go_enter Try.func33, Try.ntmps33
    go_wp2_with (fail)
    go_ret
    exact ⟨ret_int (by rw [E1.out]), Below.refl _ _⟩
  · have E1 : Hid (cutE s n = rErr s) := Lib.hid (by unfold cutE rErr; rw [if_neg hn])
    go_enter Try.func33, Try.ntmps33
    go_wp2_with (go_at_call 16; refine (rdecode s _ hs).mono ?_; rintro e w1 ⟨rfl, hbel⟩)
    go_ret
    exact ⟨ret_int (by rw [E1.out]), hbel.alloc hbel.size _⟩

theorem no_esc (s : ByteArray) (i : Nat) (hlt : i < s.size) (hc : s[i] ≠ 37) : escL (s.data.toList.drop i) = false := by
  rw [drop_at s i hlt]
  match s.data.toList.drop (i + 1) with
  | [] => rfl
  | [_] => rfl
  | _ :: _ :: _ => simp [escL, hc]

def RCutRel (s : ByteArray) (n : Nat) (k : Nat) (iv : Value) : Prop :=
  ∃ i : Nat, k = s.size - i ∧ i ≤ s.size ∧ i ≤ n ∧ iv = .int .i64 (i : Int) ∧ okL (s.data.toList.drop i) ∧ i + cutL (s.data.toList.drop i) (n - i) = cutL s.data.toList n

set_option maxRecDepth 100000 in
set_option maxHeartbeats 1000000 in
theorem rcut_ok (s : ByteArray) (n : Nat) (w : World) (hs : s.size ≤ 1000000000) (ho : okS s) :
    Calls Try.prog 12 #[.string s, .int .i64 (n : Int)] w fun e w' => e = .returned (.tuple #[.string (s.extract 0 (cutL s.data.toList n)), .int .i64 0]) ∧ Below w.heap.size w w' := by
  have hL := Lib.hid (okS_L.1 ho)
  have e1 : cutE s (n : Int) = 0 := by unfold cutE; rw [if_neg (by omega), if_pos ho]
  clear ho
  go_enter Try.func12, Try.ntmps12
  go_wp2_with (go_at_call 33; refine (rasked s _ _ hs).mono ?_; rintro e w1 ⟨rfl, hbel⟩)
  have HB := Lib.hid hbel
  clear hbel
  go_loopg [7] s.size (fun k iv wr => wr = w1 ∧ RCutRel s n k iv)
  case atStart => exact ⟨rfl, 0, rfl, Nat.zero_le _, Nat.zero_le _, rfl, hL.out, by simp⟩
  case round =>
    obtain ⟨rfl, i, hk, his, hin, rfl, hok, hcut⟩ := hrel
    have hi0 : (0 : Int) ≤ i := by omega
    by_cases hlt : i < s.size
    · have hlt' : (i : Int) < s.size := by omega
      rcases ok_cases _ hok with hd | ⟨a, t, hd, ha, hok'⟩ | ⟨b, c, u, hd, hb, hc, hok'⟩
      · rw [drop_at s i hlt] at hd; cases hd
      · have hdd := hd
        rw [drop_at s i hlt] at hdd
        obtain ⟨rfl, rfl⟩ := List.cons.inj hdd
        have hes := Lib.hid (no_esc s i hlt ha)
        clear hd hdd
        have hd := drop_at s i hlt
        have ha := Lib.hid ha
        have H := Lib.hid (And.intro hcut (And.intro hk (And.intro hok' hd)))
        clear hcut hk hok hok' hd
        by_cases hle : i + 1 ≤ n
        · have hle' : (i : Int) + 1 ≤ n := by omega
          go_wp2_with (go_at_call 34; refine (rstep_no s i _ hs his hes.out).mono ?_; rintro e w' ⟨rfl, rfl⟩)
          go_roundg (s.size - (i + 1))
          case measure => have := H.out.2.1; omega
          case rel =>
            obtain ⟨hcut, hk, hok', hd⟩ := H.out
            refine ⟨rfl, i + 1, rfl, hlt, hle, rfl, hok', ?_⟩
            rw [← hcut, hd]
            rw [cutL_plain _ _ _ ha.out]
            rw [if_pos (by omega), show n - i - 1 = n - (i + 1) from by omega]
            omega
        · have hle' : (n : Int) < (i : Int) + 1 := by omega
          go_wp2_with (go_at_call 34; refine (rstep_no s i _ hs his hes.out).mono ?_; rintro e w' ⟨rfl, rfl⟩)
          go_ret2
          obtain ⟨hcut, hk, hok', hd⟩ := H.out
          have hc : cutL s.data.toList n = i := by
            rw [← hcut, hd]
            rw [cutL_plain _ _ _ ha.out]
            rw [if_neg (by omega)]
            omega
          exact ⟨by rw [hc]; rfl, HB.out⟩
      · have hu : s.data.toList.drop (i + 3) = u := by rw [← List.drop_drop, hd]; rfl
        have h3 : i + 3 ≤ s.size := by
          have := congrArg List.length hd
          simp only [List.length_drop, size_data, List.length_cons] at this
          omega
        rw [← hu] at hok'
        have HE := Lib.hid (And.intro hd (And.intro hb hc))
        clear hb hc
        have H := Lib.hid (And.intro hcut (And.intro hk (And.intro hok' hd)))
        clear hcut hk hok hok' hd
        by_cases hle : i + 3 ≤ n
        · have hle' : (i : Int) + 3 ≤ n := by omega
          go_wp2_with (go_at_call 34; refine (rstep_yes s i b c u _ hs HE.out.1 HE.out.2.1 HE.out.2.2).mono ?_; rintro e w' ⟨rfl, rfl⟩)
          go_roundg (s.size - (i + 3))
          case measure => have := H.out.2.1; omega
          case rel =>
            obtain ⟨hcut, hk, hok', hd⟩ := H.out
            refine ⟨rfl, i + 3, rfl, h3, hle, rfl, hok', ?_⟩
            rw [← hcut, hd]
            rw [cutL_esc]
            rw [hu, if_pos (by omega), show n - i - 3 = n - (i + 3) from by omega]
            omega
        · have hle' : (n : Int) < (i : Int) + 3 := by omega
          go_wp2_with (go_at_call 34; refine (rstep_yes s i b c u _ hs HE.out.1 HE.out.2.1 HE.out.2.2).mono ?_; rintro e w' ⟨rfl, rfl⟩)
          go_ret2
          obtain ⟨hcut, hk, hok', hd⟩ := H.out
          have hc : cutL s.data.toList n = i := by
            rw [← hcut, hd]
            rw [cutL_esc]
            rw [if_neg (by omega)]
            omega
          exact ⟨by rw [hc]; rfl, HB.out⟩
    · have hd : s.data.toList.drop i = [] := drop_end s i (by omega)
      have hge : (s.size : Int) ≤ i := by omega
      have H := Lib.hid (And.intro hcut hd)
      clear hcut hk hok hd
      go_wp2_with (fail)
      go_ret2
      obtain ⟨hcut, hd⟩ := H.out
      have hc : cutL s.data.toList n = i := by rw [← hcut, hd, cutL_nil]; omega
      exact ⟨by rw [hc]; rfl, HB.out⟩

set_option maxRecDepth 100000 in
set_option maxHeartbeats 1000000 in
theorem rcut (s : ByteArray) (n : Int) (w : World) (hs : s.size ≤ 1000000000) :
    Calls Try.prog 12 #[.string s, .int .i64 n] w (CutPost s n w) := by
  by_cases hn : n < 0 ∨ ¬ okS s
  · have E1 : cutS s n = ⟨#[]⟩ ∧ (cutE s n != 0) = true := by
      unfold cutS cutE
      by_cases h : n < 0
      · rw [if_pos h, if_pos h]; exact ⟨rfl, rfl⟩
      · have h2 : ¬ okS s := hn.resolve_left h
        rw [if_neg h, if_neg h, if_neg h2, if_neg h2]; exact ⟨rfl, rfl⟩
    obtain ⟨e0, e1⟩ := E1
    have E0 := Lib.hid e0
    clear e0 hn
    go_enter Try.func12, Try.ntmps12
    go_wp2_with (go_at_call 33; refine (rasked s _ _ hs).mono ?_; rintro e w1 ⟨rfl, hbel⟩)
    go_ret2
    exact ⟨by rw [E0.out]; rfl, hbel⟩
  · have h1 : ¬ n < 0 := fun h => hn (.inl h)
    have h2 : okS s := Decidable.of_not_not fun h => hn (.inr h)
    obtain ⟨m, rfl⟩ := Int.eq_ofNat_of_zero_le (Int.not_lt.1 h1)
    refine (rcut_ok s m w hs h2).mono fun e w' h => ⟨?_, h.2⟩
    unfold cutS cutE
    rw [if_neg h1, if_pos h2, if_neg h1, if_pos h2, Int.toNat_natCast]
    exact h.1

def ROffRel (s : ByteArray) (n : Nat) (m : Nat) (iv kv : Value) : Prop :=
  ∃ i k : Nat, m = n - k ∧ k ≤ n ∧ i ≤ s.size ∧ iv = .int .i64 (i : Int) ∧ kv = .int .i64 (k : Int) ∧ okL (s.data.toList.drop i) ∧ i + offL (s.data.toList.drop i) (n - k) = offL s.data.toList n ∧ n - k ≤ (scan (s.data.toList.drop i)).1.length

set_option maxRecDepth 100000 in
set_option maxHeartbeats 1000000 in
theorem roff_ok (s : ByteArray) (n : Nat) (w : World) (hs : s.size ≤ 1000000000) (ho : okS s) (hn : n ≤ (scan s.data.toList).1.length) :
    Calls Try.prog 14 #[.string s, .int .i64 (n : Int)] w fun e w' => e = .returned (.tuple #[.int .i64 (offL s.data.toList n : Int), .int .i64 0]) ∧ Below w.heap.size w w' := by
  obtain ⟨e1, e2, e3, e4⟩ := rOk ho
  have hL := Lib.hid (okS_L.1 ho)
  have hN := Lib.hid hn
  have hle := scan_le s.data.toList
  rw [size_data] at hle
  have hsz : (rOut s).size = (scan s.data.toList).1.length := by rw [e3, ← size_data]
  have e0 : cutE s (n : Int) = 0 := by unfold cutE; rw [if_neg (by omega), if_pos ho]
  have hd1 : decide ((scan s.data.toList).1.length < n) = false := by simp; omega
  clear e3 e4 ho
  go_enter Try.func14, Try.ntmps14
  go_wp2_with (fail)
  refine (rasked s _ _ hs).mono ?_
  rintro e w1 ⟨rfl, hb1⟩
  go_wp2_with (fail)
  refine (rdecode s _ hs).mono ?_
  rintro e w2 ⟨rfl, hb2⟩
  have HB := Lib.hid (hb1.trans (hb2.mono hb1.size))
  clear hb1 hb2
  go_wp2_with (fail)
  go_loopg [9, 10] n (fun m iv kv wr => wr = w2.alloc (.cells #[.int .i64 0, .int .i64 0] 33) ∧ ROffRel s n m iv kv)
  case atStart => exact ⟨rfl, 0, 0, rfl, Nat.zero_le _, Nat.zero_le _, rfl, rfl, hL.out, by simp, hN.out⟩
  case round =>
    obtain ⟨rfl, i, k, hgk, hkn, his, rfl, rfl, hok, hoff, hlen⟩ := hrel
    by_cases hkl : k < n
    · have hkl' : (k : Int) < n := by omega
      have hlt : i < s.size := by
        rcases Nat.lt_or_ge i s.size with h | h
        · exact h
        · rw [drop_end s i h, scan_nil] at hlen; simp at hlen; omega
      rcases ok_cases _ hok with hd | ⟨a, t, hd, ha, hok'⟩ | ⟨b, c, u, hd, hb, hc, hok'⟩
      · rw [drop_at s i hlt] at hd; cases hd
      · have hdd := hd
        rw [drop_at s i hlt] at hdd
        obtain ⟨rfl, rfl⟩ := List.cons.inj hdd
        have hes := Lib.hid (no_esc s i hlt ha)
        clear hd hdd
        have hd := drop_at s i hlt
        have ha := Lib.hid ha
        have H := Lib.hid (And.intro hoff (And.intro hgk (And.intro hok' (And.intro hd hlen))))
        clear hoff hgk hok hok' hd hlen
        go_wp2_with (go_at_call 34; refine (rstep_no s i _ hs his hes.out).mono ?_; rintro e w' ⟨rfl, rfl⟩)
        go_roundg (n - (k + 1))
        case measure => have := H.out.2.1; omega
        case rel =>
          obtain ⟨hoff, hgk, hok', hd, hlen⟩ := H.out
          rw [hd] at hlen hoff
          rw [scan_plain _ _ ha.out] at hlen
          rw [show n - k = (n - (k + 1)) + 1 from by omega, offL_plain _ _ _ ha.out] at hoff
          simp only [List.length_cons] at hlen
          exact ⟨rfl, i + 1, k + 1, rfl, by omega, hlt, rfl, rfl, hok', by omega, by omega⟩
      · have hu : s.data.toList.drop (i + 3) = u := by rw [← List.drop_drop, hd]; rfl
        have h3 : i + 3 ≤ s.size := by
          have := congrArg List.length hd
          simp only [List.length_drop, size_data, List.length_cons] at this
          omega
        rw [← hu] at hok'
        have HE := Lib.hid (And.intro hd (And.intro hb hc))
        clear hb hc
        have H := Lib.hid (And.intro hoff (And.intro hgk (And.intro hok' (And.intro hd hlen))))
        clear hoff hgk hok hok' hd hlen
        go_wp2_with (go_at_call 34; refine (rstep_yes s i b c u _ hs HE.out.1 HE.out.2.1 HE.out.2.2).mono ?_; rintro e w' ⟨rfl, rfl⟩)
        go_roundg (n - (k + 1))
        case measure => have := H.out.2.1; omega
        case rel =>
          obtain ⟨hoff, hgk, hok', hd, hlen⟩ := H.out
          rw [hd] at hlen hoff
          rw [scan_esc _ _ _ HE.out.2] at hlen
          rw [show n - k = (n - (k + 1)) + 1 from by omega, offL_esc] at hoff
          simp only [List.length_cons] at hlen
          exact ⟨rfl, i + 3, k + 1, rfl, by omega, h3, rfl, rfl, hok', by rw [hu]; omega, by rw [hu]; omega⟩
    · have hke : k = n := by omega
      subst hke
      have H := Lib.hid hoff
      clear hoff hgk hok hlen
      go_wp2_with (fail)
      go_ret2
      have hoff := H.out
      rw [Nat.sub_self, offL_zero] at hoff
      exact ⟨by rw [← hoff]; rfl, HB.out.alloc HB.out.size _⟩

set_option maxRecDepth 100000 in
set_option maxHeartbeats 1000000 in
theorem roffset (s : ByteArray) (n : Int) (w : World) (hs : s.size ≤ 1000000000) :
    Calls Try.prog 14 #[.string s, .int .i64 n] w (OffPost s n w) := by
  by_cases hn : n < 0 ∨ ¬ okS s
  · have E1 : offV s n = 0 ∧ offE s n = cutE s n ∧ (cutE s n != 0) = true := by
      unfold offV offE cutE
      by_cases h : n < 0
      · rw [if_pos h, if_pos h, if_pos h]; exact ⟨rfl, rfl, rfl⟩
      · have h2 : ¬ okS s := hn.resolve_left h
        rw [if_neg h, if_neg h, if_neg h, if_neg h2, if_neg h2, if_neg h2]; exact ⟨rfl, rfl, rfl⟩
    obtain ⟨e0, e2, e1⟩ := E1
    have E0 := Lib.hid (And.intro e0 e2)
    clear e0 e2 hn
    go_enter Try.func14, Try.ntmps14
    go_wp2_with (go_at_call 33; refine (rasked s _ _ hs).mono ?_; rintro e w1 ⟨rfl, hbel⟩)
    go_ret2
    exact ⟨by rw [E0.out.1, E0.out.2]; rfl, hbel⟩
  · have h1 : ¬ n < 0 := fun h => hn (.inl h)
    have h2 : okS s := Decidable.of_not_not fun h => hn (.inr h)
    by_cases hl : n ≤ ((scan s.data.toList).1.length : Int)
    · obtain ⟨m, rfl⟩ := Int.eq_ofNat_of_zero_le (Int.not_lt.1 h1)
      refine (roff_ok s m w hs h2 (by omega)).mono fun e w' h => ⟨?_, h.2⟩
      unfold offV offE
      rw [if_neg h1, if_pos h2, if_pos hl, if_neg h1, if_pos h2, if_pos hl, Int.toNat_natCast]
      exact h.1
    · have E1 : Hid (offV s n = 0 ∧ offE s n = 2) := Lib.hid (by unfold offV offE; rw [if_neg h1, if_pos h2, if_neg hl, if_neg h1, if_pos h2, if_neg hl]; exact ⟨rfl, rfl⟩)
      have e0 : cutE s n = 0 := by unfold cutE; rw [if_neg h1, if_pos h2]
      obtain ⟨e1, e2, e3, e4⟩ := rOk h2
      have hsz : ((rOut s).size : Int) < n := by rw [e3, ← size_data]; simp; omega
      clear e3 e4 h2 hn hl
      go_enter Try.func14, Try.ntmps14
      go_wp2_with (fail)
      refine (rasked s _ _ hs).mono ?_
      rintro e w1 ⟨rfl, hb1⟩
      go_wp2_with (fail)
      refine (rdecode s _ hs).mono ?_
      rintro e w2 ⟨rfl, hb2⟩
      have HB := Lib.hid (hb1.trans (hb2.mono hb1.size))
      clear hb1 hb2
      go_wp2_with (fail)
      go_ret2
      exact ⟨by rw [E1.out.1, E1.out.2]; rfl, HB.out.alloc HB.out.size _⟩
end Go.Proofs.Ytgbnppdcolednaa
