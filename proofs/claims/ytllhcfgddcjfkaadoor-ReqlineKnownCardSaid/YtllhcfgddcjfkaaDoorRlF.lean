/-
  The document's Target, Text and Known, walked; no condition.
-/
import Derived.Test.YtllhcfgddcjfkaaDoorRlE
import Derived.Test.YtllhcfgddcjfkaaDoorRlY
namespace Go.Proofs.YtllhcfgddcjfkaaDoor
open Go.RowKit
set_option linter.unusedVariables false
set_option linter.unusedSimpArgs false

set_option maxRecDepth 100000 in
set_option maxHeartbeats 2000000 in
theorem rbyte (c : Nat) (hc : c < 256) (w : World) : Calls Tryd.prog 36 #[.int .u8 (c : Int)] w fun e W' => e = .returned (.bool (chrB c)) ∧ w = W' := by
  by_cases h1 : 33 ≤ c
  · by_cases h2 : c ≤ 126
    · by_cases h3 : c = 35
      · have q : ((c : Int) != 35) = false := by simp; omega
        have k : Hid (chrB c = false) := Lib.hid (decide_eq_false (by omega))
        clear h3
        go_enter Tryd.func36, Tryd.ntmps36
        go_wp2_with (fail)
        go_ret
        rw [k.out]; first | exact ⟨rfl, rfl⟩ | exact ⟨by rw [q]; rfl, rfl⟩ | (simp [q]; rfl)
      · have q : ((c : Int) != 35) = true := by simp; omega
        have k : Hid (chrB c = true) := Lib.hid (decide_eq_true (by omega))
        clear h3
        go_enter Tryd.func36, Tryd.ntmps36
        go_wp2_with (fail)
        go_ret
        rw [k.out]; first | exact ⟨rfl, rfl⟩ | exact ⟨by rw [q]; rfl, rfl⟩ | (simp [q]; rfl)
    · have k : Hid (chrB c = false) := Lib.hid (decide_eq_false (by omega))
      go_enter Tryd.func36, Tryd.ntmps36
      go_wp2_with (fail)
      go_ret
      rw [k.out]; exact ⟨rfl, rfl⟩
  · have k : Hid (chrB c = false) := Lib.hid (decide_eq_false (by omega))
    go_enter Tryd.func36, Tryd.ntmps36
    go_wp2_with (fail)
    go_ret
    rw [k.out]; exact ⟨rfl, rfl⟩

theorem tgt_bad {s : ByteArray} (h : s.size ≤ 1024) {x : Nat} (hx : x < s.size) (hb : chrB (byS s x) = false) : tgtE s = 3 := by
  have h1 : atB s < s.size := by
    rcases Nat.lt_or_ge (atB s) s.size with k | k
    · exact k
    · have := firstN_lt (P := fun x => !chrB (byS s x) || (decide (x = 0) && decide (byS s x ≠ 47))) (n := s.size) (x := x) (by show x < atB s; omega)
      simp [hb] at this
  unfold tgtE
  rw [if_neg (by omega), if_pos (.inr h1)]
theorem tgt_empty {s : ByteArray} (h : s.size = 0) : tgtE s = 3 := by
  unfold tgtE
  rw [if_neg (by omega), if_pos (.inl h)]
theorem tgt_start {s : ByteArray} (h : s.size ≤ 1024) (h0 : s.size ≠ 0) (hb : byS s 0 ≠ 47) : tgtE s = 3 := by
  have h1 : atB s < s.size := by
    rcases Nat.lt_or_ge (atB s) s.size with k | k
    · exact k
    · have := firstN_lt (P := fun x => !chrB (byS s x) || (decide (x = 0) && decide (byS s x ≠ 47))) (n := s.size) (x := 0) (by show 0 < atB s; omega)
      simp [hb] at this
  unfold tgtE
  rw [if_neg (by omega), if_pos (.inr h1)]
theorem tgt_ok {s : ByteArray} (h : s.size ≤ 1024) (h0 : s.size ≠ 0) (hb : byS s 0 = 47) (ha : ∀ x, x < s.size → chrB (byS s x) = true) : tgtE s = 0 := by
  have h1 : atB s = s.size := firstN_none fun x hx => by
    rw [ha x hx]
    by_cases e : x = 0
    · rw [e, hb]; rfl
    · rw [decide_eq_false e]; rfl
  unfold tgtE
  rw [if_neg (by omega), if_neg (by omega)]

set_option maxRecDepth 100000 in
set_option maxHeartbeats 4000000 in
theorem rtgt (s : ByteArray) (hs : s.size ≤ 1000000) (w : World) :
    Calls Tryd.prog 25 #[.string s] w fun e W' => e = .returned (.int .i64 (tgtE s)) ∧ w = W' := by
  by_cases h1 : (1024 : Int) < (s.size : Int)
  · have k : Hid (tgtE s = 4) := Lib.hid (by unfold tgtE; rw [if_pos (by omega)])
    go_enter Tryd.func25, Tryd.ntmps25
    go_wp2_with (fail)
    go_ret
    rw [k.out]
    exact ⟨rfl, rfl⟩
  · have hz : s.size ≤ 1024 := by omega
    go_enter Tryd.func25, Tryd.ntmps25
    go_wp2_with (fail)
    go_loop [3] (fun i => ∃ k : Nat, k ≤ s.size ∧ i = .int .i64 (k : Int) ∧ (∀ j, j < k → chrB (byS s j) = true)) (fun i => s.size - (intOf i).toNat)
    case atStart => exact ⟨0, by omega, rfl, fun j hj => absurd hj (by omega)⟩
    case round =>
      obtain ⟨k, hk, rfl, hne⟩ := hrel
      have HH := Lib.hid hne
      clear hne
      by_cases hlt : k < s.size
      · obtain ⟨d, hd⟩ : ∃ d, d = byS s k := ⟨_, rfl⟩
        have e1 := fun h' => get_byS s k h'
        simp only [← hd] at e1
        have hd2 : d < 256 := by rw [hd]; exact byS_lt s k
        have HD := Lib.hid hd
        clear hd
        go_wp2_with (fail)
        refine (rbyte d hd2 _).mono ?_
        rintro e W1 ⟨rfl, rfl⟩
        cases ht : chrB d
        · have kk : Hid (tgtE s = 3) := Lib.hid (tgt_bad hz hlt (by rw [← HD.out]; exact ht))
          clear ht
          go_wp2_with (fail)
          go_ret
          exact ⟨by rw [kk.out] <;> rfl, rfl⟩
        · have nxt : Hid (∀ j : Nat, j < k + 1 → chrB (byS s j) = true) := Lib.hid (fun j hj => by
            by_cases e : j = k
            · rw [e, ← HD.out]; exact ht
            · exact HH.out j (by omega))
          clear ht
          go_wp2_with (fail)
          exact ⟨⟨k + 1, by omega, by go_num, nxt.out⟩, by simp [intOf]; omega⟩
      · obtain rfl : k = s.size := by omega
        by_cases h0 : s.size = 0
        · have kk := Lib.hid (tgt_empty h0)
          obtain rfl := empty_of_size h0
          go_wp2_with (fail)
          go_ret
          exact ⟨by rw [kk.out] <;> rfl, rfl⟩
        · have hne := nonempty_b s (by omega)
          have hps : 0 < s.size := by omega
          obtain ⟨d, hd⟩ : ∃ d, d = byS s 0 := ⟨_, rfl⟩
          have e1 := fun h' => get_byS s 0 h'
          simp only [← hd] at e1
          by_cases h47 : d = 47
          · have q : ((d : Int) != 47) = false := by simp; omega
            have kk := Lib.hid (tgt_ok hz h0 (by rw [← hd]; exact h47) HH.out)
            clear h47 hd
            go_wp2_with (fail)
            go_ret
            exact ⟨by rw [kk.out] <;> rfl, rfl⟩
          · have q : ((d : Int) != 47) = true := by simp; omega
            have kk := Lib.hid (tgt_start hz h0 (by rw [← hd]; exact h47))
            clear h47 hd
            go_wp2_with (fail)
            go_ret
            exact ⟨by rw [kk.out] <;> rfl, rfl⟩

set_option maxRecDepth 100000 in
set_option maxHeartbeats 4000000 in
theorem rtext (m t : ByteArray) (hs : m.size ≤ 1000000) (ht : t.size ≤ 1000000) (w : World) :
    Calls Tryd.prog 21 #[.agg #[.string m, .string t]] w fun e W' => e = .returned (.tuple #[.string (txtS m t), .int .i64 (txtE m t)]) ∧ Below w.heap.size w W' := by
  have z0 := gr_alloc (Below.refl w.heap.size w) (.cells #[.string m, .string t] 29)
  have b0 := Blk.new w 29 #[.string m, .string t]
  have x0 := b0.cell' (i := 0) rfl
  have x1 := b0.cell' (i := 1) rfl
  have xl := b0.lt
  have HZ := Lib.hid z0
  clear z0 b0
  go_enter Tryd.func21, Tryd.ntmps21
  by_cases h1 : (16 : Int) < (m.size : Int)
  · have k : Hid (txtE m t = 11) := Lib.hid (by unfold txtE nameE; rw [decide_eq_false (show ¬ m.size ≤ 16 by omega)]; rfl)
    go_wp2_with (fail)
    go_ret2
    unfold txtS
    rw [k.out]
    exact ⟨rfl, HZ.out⟩
  · go_wp2_with (fail)
    refine (ris m (by omega) _).mono ?_
    rintro e W1 ⟨rfl, rfl⟩
    cases hi : isT m
    · have k : Hid (txtE m t = 11) := Lib.hid (by unfold txtE nameE; rw [hi, Bool.and_false]; rfl)
      clear hi
      go_wp2_with (fail)
      go_ret2
      unfold txtS
      rw [k.out]
      exact ⟨rfl, HZ.out⟩
    · have k : Hid (txtE m t = tgtE t) := Lib.hid (by unfold txtE nameE; rw [hi, decide_eq_true (show m.size ≤ 16 by omega)]; rfl)
      clear hi
      go_wp2_with (fail)
      refine (rtgt t ht _).mono ?_
      rintro e W2 ⟨rfl, rfl⟩
      obtain ⟨E, hE⟩ : ∃ E, E = tgtE t := ⟨_, rfl⟩
      rw [← hE]
      have HE := Lib.hid (k.out.trans hE.symm)
      clear hE
      by_cases h0 : E = 0
      · subst h0
        go_wp2_with (fail)
        go_ret2
        unfold txtS
        rw [HE.out]
        exact ⟨rfl, HZ.out⟩
      · have q : (E != 0) = true := by simp; exact h0
        have HN := Lib.hid h0
        clear h0
        go_wp2_with (fail)
        go_ret2
        unfold txtS
        rw [HE.out, if_neg HN.out]
        exact ⟨rfl, HZ.out⟩

set_option maxRecDepth 100000 in
set_option maxHeartbeats 4000000 in
theorem rknown (m : ByteArray) (w : World) :
    Calls Tryd.prog 23 #[.string m] w fun e W' => e = .returned (.tuple #[.int .i64 (knownN m), .bool (knownB m)]) ∧ w = W' := by
  have g1 := get_beq m
  have g2 := head_beq m
  have g3 := post_beq m
  by_cases h1 : m = getE
  · have k : Hid (knownN m = 1 ∧ knownB m = true) := Lib.hid (by unfold knownN knownB; rw [if_pos h1, decide_eq_true h1]; exact ⟨rfl, rfl⟩)
    rw [decide_eq_true h1] at g1
    clear h1 g2 g3
    go_enter Tryd.func23, Tryd.ntmps23
    go_wp2_with (fail)
    go_ret2
    exact ⟨by rw [k.out.1, k.out.2] <;> rfl, rfl⟩
  · rw [decide_eq_false h1] at g1
    by_cases h2 : m = headE
    · have k : Hid (knownN m = 2 ∧ knownB m = true) := Lib.hid (by unfold knownN knownB; rw [if_neg h1, if_pos h2, decide_eq_true h2]; exact ⟨rfl, by simp⟩)
      rw [decide_eq_true h2] at g2
      clear h1 h2 g3
      go_enter Tryd.func23, Tryd.ntmps23
      go_wp2_with (fail)
      go_ret2
      exact ⟨by rw [k.out.1, k.out.2] <;> rfl, rfl⟩
    · rw [decide_eq_false h2] at g2
      by_cases h3 : m = postE
      · have k : Hid (knownN m = 3 ∧ knownB m = true) := Lib.hid (by unfold knownN knownB; rw [if_neg h1, if_neg h2, if_pos h3, decide_eq_true h3]; exact ⟨rfl, by simp⟩)
        rw [decide_eq_true h3] at g3
        clear h1 h2 h3
        go_enter Tryd.func23, Tryd.ntmps23
        go_wp2_with (fail)
        go_ret2
        exact ⟨by rw [k.out.1, k.out.2] <;> rfl, rfl⟩
      · have k : Hid (knownN m = 0 ∧ knownB m = false) := Lib.hid (by unfold knownN knownB; rw [if_neg h1, if_neg h2, if_neg h3, decide_eq_false h1, decide_eq_false h2, decide_eq_false h3]; exact ⟨rfl, rfl⟩)
        rw [decide_eq_false h3] at g3
        clear h1 h2 h3
        go_enter Tryd.func23, Tryd.ntmps23
        go_wp2_with (fail)
        go_ret2
        exact ⟨by rw [k.out.1, k.out.2] <;> rfl, rfl⟩
end Go.Proofs.YtllhcfgddcjfkaaDoor
