/-
  The document's token test, parts, length and target, walked; no condition.
-/
import Derived.Test.YtllhcfgddcjfkaaDoorRlD
namespace Go.Proofs.YtllhcfgddcjfkaaDoor
open Go.RowKit
set_option linter.unusedVariables false
set_option linter.unusedSimpArgs false

set_option maxRecDepth 100000 in
set_option maxHeartbeats 4000000 in
theorem ris (s : ByteArray) (hs : s.size ≤ 1000000) (w : World) : Calls Tryd.prog 33 #[.string s] w fun e W' => e = .returned (.bool (isT s)) ∧ w = W' := by
  have HI := Lib.hid (isT_iff s)
  go_enter Tryd.func33, Tryd.ntmps33
  go_wp2_with (fail)
  go_loop [3] (fun i => ∃ k : Nat, k ≤ s.size ∧ i = .int .i64 (k : Int) ∧ (∀ j, j < k → tokB (byS s j) = true)) (fun i => s.size - (intOf i).toNat)
  case atStart => exact ⟨0, by omega, rfl, fun j hj => absurd hj (by omega)⟩
  case round =>
    obtain ⟨k, hk, rfl, hne⟩ := hrel
    have HH := Lib.hid hne
    clear hne
    by_cases hlt : k < s.size
    · obtain ⟨d, hd⟩ : ∃ d, d = byS s k := ⟨_, rfl⟩
      have e1 := fun h' => get_byS s k h'
      simp only [← hd] at e1
      have hd2 : d < 256 := by rw [hd]; exact byS_lt s k
      have HD := Lib.hid hd
      clear hd
      go_wp2_with (fail)
      refine (rof d hd2 _).mono ?_
      rintro e W1 ⟨rfl, rfl⟩
      cases ht : tokB d
      · have kk : Hid (isT s = false) := Lib.hid (by
          cases hi : isT s
          · rfl
          · have := (HI.out.1 hi).2 k hlt
            rw [← HD.out, ht] at this
            cases this)
        clear ht
        go_wp2_with (fail)
        go_ret
        exact ⟨by rw [kk.out] <;> rfl, rfl⟩
      · have nxt : Hid (∀ j : Nat, j < k + 1 → tokB (byS s j) = true) := Lib.hid (fun j hj => by
          by_cases e : j = k
          · rw [e, ← HD.out]; exact ht
          · exact HH.out j (by omega))
        clear ht
        go_wp2_with (fail)
        exact ⟨⟨k + 1, by omega, by go_num, nxt.out⟩, by simp [intOf]; omega⟩
    · obtain rfl : k = s.size := by omega
      by_cases h0 : s.size = 0
      · obtain rfl := empty_of_size h0
        go_wp2_with (fail)
        go_ret
        exact ⟨rfl, rfl⟩
      · have hne := nonempty_b s (by omega)
        have kk := Lib.hid (HI.out.2 ⟨h0, HH.out⟩)
        go_wp2_with (fail)
        go_ret
        refine ⟨?_, rfl⟩
        rw [kk.out] <;> first | rfl | simp [hne] | skip

/-- The first space from a place on, as the document says it. -/
def spcI (s : ByteArray) (f : Nat) : Int := if firstN (fun x => decide (f ≤ x) && decide (byS s x = 32)) s.size < s.size then (firstN (fun x => decide (f ≤ x) && decide (byS s x = 32)) s.size : Int) else -1

set_option maxRecDepth 100000 in
set_option maxHeartbeats 4000000 in
theorem rspace (s : ByteArray) (hs : s.size ≤ 1000000) (f : Nat) (hf : f ≤ s.size + 1) (w : World) : Calls Tryd.prog 27 #[.string s, .int .i64 (f : Int)] w fun e W' => e = .returned (.int .i64 (spcI s f)) ∧ w = W' := by
  obtain ⟨P, hP⟩ : ∃ P : Nat → Bool, P = fun x => decide (f ≤ x) && decide (byS s x = 32) := ⟨_, rfl⟩
  have HP : Hid (spcI s f = if firstN P s.size < s.size then (firstN P s.size : Int) else -1) := Lib.hid (by rw [hP]; rfl)
  go_enter Tryd.func27, Tryd.ntmps27
  go_wp2_with (fail)
  go_loop [5] (fun i => ∃ k : Nat, f ≤ k ∧ k ≤ s.size + 1 ∧ i = .int .i64 (k : Int) ∧ (∀ x, x < k → x < s.size → P x = false)) (fun i => s.size + 1 - (intOf i).toNat)
  case atStart => exact ⟨f, by omega, hf, rfl, fun j hj _ => by rw [hP]; simp; omega⟩
  case round =>
    obtain ⟨k, hfk, hk, rfl, hne⟩ := hrel
    have HH := Lib.hid hne
    clear hne
    by_cases hlt : k < s.size
    · obtain ⟨d, hd⟩ : ∃ d, d = byS s k := ⟨_, rfl⟩
      have e1 := fun h' => get_byS s k h'
      simp only [← hd] at e1
      have hPk : P k = decide (d = 32) := by rw [hP, hd]; simp [hfk]
      clear hP hd
      by_cases hm : d = 32
      · have q1 : ((d : Int) == 32) = true := by simp; omega
        have kk : Hid (spcI s f = (k : Int)) := Lib.hid (by
          have e := firstN_is (P := P) (n := s.size) (p := k) (by omega) (fun x hx => HH.out x hx (by omega)) (fun _ => by rw [hPk, hm]; rfl)
          rw [HP.out, e, if_pos hlt])
        clear hm hPk
        go_wp2_with (fail)
        go_ret
        exact ⟨by rw [kk.out] <;> rfl, rfl⟩
      · have q1 : ((d : Int) == 32) = false := by simp; omega
        have nxt : Hid (∀ x, x < k + 1 → x < s.size → P x = false) := Lib.hid (fun x hx hxs => by
          by_cases e : x = k
          · rw [e, hPk]; exact decide_eq_false hm
          · exact HH.out x (by omega) hxs)
        clear hm hPk
        go_wp2_with (fail)
        exact ⟨⟨k + 1, by omega, by omega, by go_num, nxt.out⟩, by simp [intOf]; omega⟩
    · have kk : Hid (spcI s f = -1) := Lib.hid (by
        have e := firstN_none (P := P) (n := s.size) (fun x hx => HH.out x (by omega) hx)
        rw [HP.out, e, if_neg (by omega)])
      clear hP
      go_wp2_with (fail)
      go_ret
      exact ⟨by rw [kk.out] <;> rfl, rfl⟩
theorem spc_a (s : ByteArray) : spcI s 0 = if spA (byS s) s.size < s.size then (spA (byS s) s.size : Int) else -1 := by
  have e : firstN (fun x => decide (0 ≤ x) && decide (byS s x = 32)) s.size = spA (byS s) s.size := firstN_congr fun x _ => by simp
  unfold spcI
  rw [e]
theorem spc_b (s : ByteArray) : spcI s (spA (byS s) s.size + 1) = if spB (byS s) s.size < s.size then (spB (byS s) s.size : Int) else -1 := by
  have e : firstN (fun x => decide (spA (byS s) s.size + 1 ≤ x) && decide (byS s x = 32)) s.size = spB (byS s) s.size := firstN_congr fun x _ => rfl
  unfold spcI
  rw [e]

set_option maxRecDepth 100000 in
set_option maxHeartbeats 4000000 in
theorem rparts (s : ByteArray) (hs : s.size ≤ 1000000) (w : World) :
    Calls Tryd.prog 13 #[.string s] w fun e W' => e = .returned (.tuple #[.string (pA s), .string (pB s), .string (pC s), .int .i64 (partN (byS s) s.size : Int)]) ∧ Below w.heap.size w W' := by
  have ha := spc_a s
  have hb := spc_b s
  have la := spA_le (byS s) s.size
  have lb := spB_le (byS s) s.size
  have hg := spB_gt (byS s) s.size
  have p1 := partN_1 (G := byS s) (n := s.size)
  have p2 := partN_2 (G := byS s) (n := s.size)
  have p3 := partN_3 (G := byS s) (n := s.size)
  have HA := Lib.hid (And.intro ha hb)
  have eA : pA s = s.extract 0 (spA (byS s) s.size) := rfl
  have eB : pB s = s.extract (spA (byS s) s.size + 1) (spB (byS s) s.size) := rfl
  have eC : pC s = s.extract (spB (byS s) s.size + 1) s.size := rfl
  have HE := Lib.hid (And.intro eA (And.intro eB eC))
  have HPN := Lib.hid (And.intro p1 (And.intro p2 p3))
  clear ha hb eA eB eC p1 p2 p3
  obtain ⟨x, hx⟩ : ∃ x, x = spA (byS s) s.size := ⟨_, rfl⟩
  obtain ⟨y, hy⟩ : ∃ y, y = spB (byS s) s.size := ⟨_, rfl⟩
  rw [← hx, ← hy] at hg HPN HE HA
  rw [← hx] at la
  rw [← hy] at lb
  clear hx hy
  go_enter Tryd.func13, Tryd.ntmps13
  go_wp2_with (fail)
  refine (rspace s hs 0 (by omega) _).mono ?_
  rintro e W1 ⟨rfl, rfl⟩
  rw [HA.out.1]
  by_cases h1 : x < s.size
  · rw [if_pos h1]
    have hxy := hg h1
    clear hg
    go_wp2_with (fail)
    refine (rspace s hs (x + 1) (by omega) _).mono ?_
    rintro e W1 ⟨rfl, rfl⟩
    rw [HA.out.2]
    by_cases h2 : y < s.size
    · rw [if_pos h2]
      go_wp2_with (fail)
      go_quiet (fail)
      go_wp2_with (fail)
      refine bodyPost_ret (v := .tuple #[.string (s.extract 0 x), .string (s.extract (x + 1) y), .string (s.extract (y + 1) s.size), .int .i64 3]) (by simp [results, Tryd.results13, go_sem]) rfl ⟨?_, below_drewN (Below.refl _ _) _⟩
      rw [HE.out.1, HE.out.2.1, HE.out.2.2, HPN.out.2.2.2 h2]
      rfl
    · rw [if_neg h2]
      have e2 : y = s.size := by omega
      go_wp2_with (fail)
      go_quiet (fail)
      go_wp2_with (fail)
      refine bodyPost_ret (v := .tuple #[.string (s.extract 0 x), .string (s.extract (x + 1) s.size), .string ⟨#[]⟩, .int .i64 2]) (by simp [results, Tryd.results13, go_sem]) rfl ⟨?_, below_drewN (Below.refl _ _) _⟩
      rw [HE.out.1, HE.out.2.1, HE.out.2.2, HPN.out.2.1.2 ⟨h1, e2⟩, e2, ext_none (s := s) (a := s.size + 1) (b := s.size) (by omega)]
      rfl
  · rw [if_neg h1]
    have e1 : x = s.size := by omega
    have e2 : Hid (partN (byS s) s.size = 1) := Lib.hid (HPN.out.1.2 e1)
    have e3 : Hid (pA s = s ∧ pB s = ByteArray.empty ∧ pC s = ByteArray.empty) := Lib.hid ⟨join_1 e2.out, by unfold pB; exact ext_none (by have := spB_le (byS s) s.size; have := partN_1.1 e2.out; omega), by unfold pC; exact ext_none (by have := spB_end _ _ (partN_1.1 e2.out); omega)⟩
    go_wp2_with (fail)
    refine bodyPost_ret (v := .tuple #[.string s, .string ⟨#[]⟩, .string ⟨#[]⟩, .int .i64 1]) (by simp [results, Tryd.results13, go_sem]) rfl ⟨?_, Below.refl _ _⟩
    rw [e3.out.1, e3.out.2.1, e3.out.2.2, e2.out]
    rfl

set_option maxRecDepth 100000 in
set_option maxHeartbeats 4000000 in
theorem rlong (s : ByteArray) (hs : s.size ≤ 1000000) (w : World) :
    Calls Tryd.prog 15 #[.string s] w fun e W' => e = .returned (.tuple #[.int .i64 (longS (byS s) s.size), .int .i64 (longP (byS s) s.size : Int)]) ∧ Below w.heap.size w W' := by
  have ea := pA_size s
  have eb := pB_size s
  have ec := pC_size s
  have la := spA_le (byS s) s.size
  have lb := spB_le (byS s) s.size
  have hlb : lenB (byS s) s.size ≤ s.size := by unfold lenB; omega
  have hlc : lenC (byS s) s.size ≤ s.size := by unfold lenC; omega
  have hfb : 0 < lenC (byS s) s.size → spB (byS s) s.size = spA (byS s) s.size + 1 + lenB (byS s) s.size := fun h => by
    have h' : spB (byS s) s.size < s.size := by unfold lenC at h; omega
    have := (spB_at h').1
    unfold lenB; omega
  have HW : Hid (longS (byS s) s.size = if 16 < (pA s).size then 400 else if 1024 < (pB s).size then 414 else if 512 < (pC s).size then 400 else 0) := Lib.hid (by rw [ea, eb, ec]; rfl)
  have HP : Hid (longP (byS s) s.size = if 16 < (pA s).size then 16 else if 1024 < (pB s).size then (pA s).size + 1 + 1024 else if 512 < (pC s).size then (pA s).size + 1 + (pB s).size + 1 + 512 else s.size) := Lib.hid (by
    rw [ea, eb, ec]
    unfold longP
    split
    · rfl
    · split
      · rfl
      · split
        · rename_i h
          have := hfb (by omega)
          omega
        · rfl)
  have hza : (pA s).size ≤ 1000000 := by omega
  have hzb : (pB s).size ≤ 1000000 := by omega
  have hzc : (pC s).size ≤ 1000000 := by omega
  clear ea eb ec hlb hlc hfb la lb
  go_enter Tryd.func15, Tryd.ntmps15
  go_wp2_with (fail)
  refine (rparts s hs _).mono ?_
  rintro e W1 ⟨rfl, h1⟩
  have H1 := Lib.hid h1
  clear h1
  generalize (partN (byS s) s.size : Int) = N
  generalize pA s = a at *
  generalize pB s = b at *
  generalize pC s = c at *
  by_cases h16 : (16 : Int) < (a.size : Int)
  · go_wp2_with (fail)
    go_ret2
    refine ⟨?_, H1.out⟩
    rw [HW.out, HP.out, if_pos (by omega), if_pos (by omega)]
    rfl
  · by_cases h1k : (1024 : Int) < (b.size : Int)
    · go_wp2_with (fail)
      go_ret2
      refine ⟨?_, H1.out⟩
      rw [HW.out, HP.out, if_neg (show ¬ 16 < a.size by omega), if_pos (show 1024 < b.size by omega), if_neg (show ¬ 16 < a.size by omega), if_pos (show 1024 < b.size by omega)]
      rfl
    · by_cases h5 : (512 : Int) < (c.size : Int)
      · go_wp2_with (fail)
        go_ret2
        refine ⟨?_, H1.out⟩
        rw [HW.out, HP.out, if_neg (show ¬ 16 < a.size by omega), if_neg (show ¬ 1024 < b.size by omega), if_pos (show 512 < c.size by omega), if_neg (show ¬ 16 < a.size by omega), if_neg (show ¬ 1024 < b.size by omega), if_pos (show 512 < c.size by omega)]
        rfl
      · go_wp2_with (fail)
        go_ret2
        refine ⟨?_, H1.out⟩
        rw [HW.out, HP.out, if_neg (show ¬ 16 < a.size by omega), if_neg (show ¬ 1024 < b.size by omega), if_neg (show ¬ 512 < c.size by omega), if_neg (show ¬ 16 < a.size by omega), if_neg (show ¬ 1024 < b.size by omega), if_neg (show ¬ 512 < c.size by omega)]
        rfl
end Go.Proofs.YtllhcfgddcjfkaaDoor
