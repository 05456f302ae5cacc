/-
  The reference's put at parts that are no letters, walked; no condition.
-/
import Derived.Test.YtlipjagdlpkjpaaDoorFtL
namespace Go.Proofs.YtlipjagdlpkjpaaDoor
open Go.RowKit
set_option linter.unusedVariables false
set_option linter.unusedSimpArgs false

theorem let_ne {p : ByteArray} (h : ¬ letK p < 8) (k : Nat) (hk : k < 8) (c : UInt8) (hc : c.toNat = let8 k) : (p.toList == [c]) = false := by
  rw [beq_lit]
  refine decide_eq_false fun e => h ?_
  rw [(letK_is hk).2 ⟨by rw [e]; rfl, by rw [e]; exact hc⟩]
  exact hk
theorem two_is {p : ByteArray} (h : 2 ≤ p.size) (c : Nat) (hc : c < 256) : (p.extract 0 2).toList == [UInt8.ofNat c, 61] ↔ (byS p 0 = c ∧ byS p 1 = 61) := by
  rw [beq_lit, decide_eq_true_eq]
  have hcn : (UInt8.ofNat c).toNat = c := by simp; omega
  have e0 : byS (p.extract 0 2) 0 = byS p 0 := by rw [byS_ext (by omega) h]
  have e1 : byS (p.extract 0 2) 1 = byS p 1 := by rw [byS_ext (by omega) h]
  constructor
  · intro e
    rw [← e0, ← e1, e]
    exact ⟨hcn, rfl⟩
  · rintro ⟨h0, h1⟩
    refine str_eq (by rw [ext_len h]; rfl) fun i hi => ?_
    rw [ext_len h] at hi
    have : i = 0 ∨ i = 1 := by omega
    rcases this with rfl | rfl
    · rw [e0, h0]; exact hcn.symm
    · rw [e1, h1]; rfl
theorem isS_two {p : ByteArray} (h : isS p = true) : 2 ≤ p.size ∧ ((p.extract 0 2).toList == [83, 61]) = true := by
  unfold isS at h
  simp only [Bool.and_eq_true, decide_eq_true_eq] at h
  exact ⟨h.1, (two_is h.1 83 (by decide)).2 h.2⟩
theorem isR_two {p : ByteArray} (h : isR p = true) : 2 ≤ p.size ∧ ((p.extract 0 2).toList == [82, 61]) = true := by
  unfold isR at h
  simp only [Bool.and_eq_true, decide_eq_true_eq] at h
  exact ⟨h.1, (two_is h.1 82 (by decide)).2 h.2⟩
theorem isS_not {p : ByteArray} (h : ¬ isS p = true) (h2 : 2 ≤ p.size) : ((p.extract 0 2).toList == [83, 61]) = false := by
  rw [Bool.eq_false_iff]
  intro e
  have := (two_is h2 83 (by decide)).1 e
  apply h
  unfold isS
  simp [h2, this]
theorem isR_not {p : ByteArray} (h : ¬ isR p = true) (h2 : 2 ≤ p.size) : ((p.extract 0 2).toList == [82, 61]) = false := by
  rw [Bool.eq_false_iff]
  intro e
  have := (two_is h2 82 (by decide)).1 e
  apply h
  unfold isR
  simp [h2, this]
set_option maxRecDepth 100000 in
set_option maxHeartbeats 2000000 in
theorem rputS (l0 l1 l2 l3 l4 l5 l6 l7 : Bool) (sk rd : Int) (a b : Bool) (p : ByteArray) (hp : p.size ≤ 1000000) (hk : ¬ letK p < 8) (hS : isS p = true) (w : World) :
    Calls Tryd.prog 34 #[.agg #[Value.bool l0, .bool l1, .bool l2, .bool l3, .bool l4, .bool l5, .bool l6, .bool l7, .int .i64 sk, .int .i64 rd], .agg #[.bool a, .bool b], .string p] w (PutPost w (putP ⟨⟨l0, l1, l2, l3, l4, l5, l6, l7, sk, rd⟩, a, b⟩ p)) := by
  obtain ⟨h2, he⟩ := isS_two hS
  have h2i : (2 : Int) ≤ (p.size : Int) := by omega
  have HP := Lib.hid (putP_S (s := ⟨⟨l0, l1, l2, l3, l4, l5, l6, l7, sk, rd⟩, a, b⟩) hk hS)
  have n0 := let_ne hk 0 (by decide) 76 rfl
  have n1 := let_ne hk 1 (by decide) 78 rfl
  have n2 := let_ne hk 2 (by decide) 67 rfl
  have n3 := let_ne hk 3 (by decide) 69 rfl
  have n4 := let_ne hk 4 (by decide) 70 rfl
  have n5 := let_ne hk 5 (by decide) 71 rfl
  have n6 := let_ne hk 6 (by decide) 65 rfl
  have n7 := let_ne hk 7 (by decide) 68 rfl
  obtain ⟨d, hd⟩ : ∃ d, d = p.extract 2 p.size := ⟨_, rfl⟩
  have hdz : d.size ≤ 1000000 := by rw [hd, ext_len (Nat.le_refl _)]; omega
  rw [← hd] at HP
  have HD := Lib.hid hd
  clear hk hS hd
  go_enter Tryd.func34, Tryd.ntmps34
  go_wp2_with (fail)
  rw [← HD.out]
  refine (rnum d hdz _).mono ?_
  rintro e W3 ⟨rfl, rfl⟩
  clear n0 n1 n2 n3 n4 n5 n6 n7 he
  by_cases hng : numP d < 0
  · have HQ : Hid (skP ⟨⟨l0, l1, l2, l3, l4, l5, l6, l7, sk, rd⟩, a, b⟩ (numP d) = (⟨⟨l0, l1, l2, l3, l4, l5, l6, l7, sk, rd⟩, a, b⟩, 3)) := Lib.hid (by unfold skP; rw [if_pos hng])
    rw [numR_no hng]
    clear hng
    go_wp2_with (fail)
    go_region
    go_wp2_with (fail)
    refine bodyPost_ret (put_res (w.heap.size + 1 + 1) (w.heap.size + 1 + 1 + 1) ⟨l0, l1, l2, l3, l4, l5, l6, l7, sk, rd⟩ a b 3 _ _ rfl rfl rfl (((blk_at (by simp)).alloc _).drew) ((blk_at (by simp)).drew)) rfl ?_
    exact ⟨⟨⟨l0, l1, l2, l3, l4, l5, l6, l7, sk, rd⟩, a, b⟩, fun _ => by rw [HP.out, HQ.out], by rw [HP.out, HQ.out], four_below _ _ _ _ _⟩
  · rw [numR_is hng]
    obtain ⟨v, hv⟩ : ∃ v, v = numP d := ⟨_, rfl⟩
    rw [← hv] at hng HP ⊢
    clear hv
    cases a
    · have HQ : Hid (skP ⟨⟨l0, l1, l2, l3, l4, l5, l6, l7, sk, rd⟩, false, b⟩ v = (⟨⟨l0, l1, l2, l3, l4, l5, l6, l7, v, rd⟩, true, b⟩, 0)) := Lib.hid (by unfold skP; rw [if_neg hng, if_neg (show ¬ false = true by decide)])
      clear hng
      go_wp2_with (fail)
      go_region
      go_wp2_with (fail)
      refine bodyPost_ret (put_res (w.heap.size + 1 + 1) (w.heap.size + 1 + 1 + 1) ⟨l0, l1, l2, l3, l4, l5, l6, l7, v, rd⟩ true b 0 _ _ rfl rfl rfl (((blk_at (by simp)).alloc _).drew) ((blk_at (by simp)).drew)) rfl ?_
      exact ⟨⟨⟨l0, l1, l2, l3, l4, l5, l6, l7, v, rd⟩, true, b⟩, fun h => by rw [HP.out, HQ.out], by rw [HP.out, HQ.out], four_below _ _ _ _ _⟩
    · have HQ : Hid (skP ⟨⟨l0, l1, l2, l3, l4, l5, l6, l7, sk, rd⟩, true, b⟩ v = (⟨⟨l0, l1, l2, l3, l4, l5, l6, l7, sk, rd⟩, true, b⟩, 7)) := Lib.hid (by unfold skP; rw [if_neg hng, if_pos rfl])
      clear hng
      go_wp2_with (fail)
      go_region
      go_wp2_with (fail)
      refine bodyPost_ret (put_res (w.heap.size + 1 + 1) (w.heap.size + 1 + 1 + 1) ⟨l0, l1, l2, l3, l4, l5, l6, l7, v, rd⟩ true b 7 _ _ rfl rfl rfl (((blk_at (by simp)).alloc _).drew) ((blk_at (by simp)).drew)) rfl ?_
      exact ⟨⟨⟨l0, l1, l2, l3, l4, l5, l6, l7, v, rd⟩, true, b⟩, fun h => absurd h (by rw [HP.out, HQ.out]; show ¬ (7 : Int) = 0; decide), by rw [HP.out, HQ.out], four_below _ _ _ _ _⟩
set_option maxRecDepth 100000 in
set_option maxHeartbeats 2000000 in
theorem rputr (l0 l1 l2 l3 l4 l5 l6 l7 : Bool) (sk rd : Int) (a b : Bool) (w : World) :
    Calls Tryd.prog 34 #[.agg #[Value.bool l0, .bool l1, .bool l2, .bool l3, .bool l4, .bool l5, .bool l6, .bool l7, .int .i64 sk, .int .i64 rd], .agg #[.bool a, .bool b], .string ⟨#[82]⟩] w (PutPost w (putP ⟨⟨l0, l1, l2, l3, l4, l5, l6, l7, sk, rd⟩, a, b⟩ ⟨#[82]⟩)) := by
  have HP := Lib.hid (putP_r (s := ⟨⟨l0, l1, l2, l3, l4, l5, l6, l7, sk, rd⟩, a, b⟩) letK_rE (by rw [isS_rE]; decide) rfl)
  cases b
  · have HQ : Hid (rdP ⟨⟨l0, l1, l2, l3, l4, l5, l6, l7, sk, rd⟩, a, false⟩ 302 = (⟨⟨l0, l1, l2, l3, l4, l5, l6, l7, sk, 302⟩, a, true⟩, 0)) := Lib.hid (by unfold rdP; rw [if_neg (by decide), if_neg (show ¬ false = true by decide)])
    go_enter Tryd.func34, Tryd.ntmps34
    go_wp2_with (fail)
    go_region
    go_wp2_with (fail)
    refine bodyPost_ret (put_res (w.heap.size + 1 + 1) (w.heap.size + 1 + 1 + 1) ⟨l0, l1, l2, l3, l4, l5, l6, l7, sk, 302⟩ a true 0 _ _ rfl rfl rfl (((blk_at (by simp)).alloc _).drew) ((blk_at (by simp)).drew)) rfl ?_
    exact ⟨⟨⟨l0, l1, l2, l3, l4, l5, l6, l7, sk, 302⟩, a, true⟩, fun h => by rw [show (⟨#[82]⟩ : ByteArray) = rE from rfl, HP.out, HQ.out], by rw [show (⟨#[82]⟩ : ByteArray) = rE from rfl, HP.out, HQ.out], four_below _ _ _ _ _⟩
  · have HQ : Hid (rdP ⟨⟨l0, l1, l2, l3, l4, l5, l6, l7, sk, rd⟩, a, true⟩ 302 = (⟨⟨l0, l1, l2, l3, l4, l5, l6, l7, sk, rd⟩, a, true⟩, 7)) := Lib.hid (by unfold rdP; rw [if_neg (by decide), if_pos rfl])
    go_enter Tryd.func34, Tryd.ntmps34
    go_wp2_with (fail)
    go_region
    go_wp2_with (fail)
    refine bodyPost_ret (put_res (w.heap.size + 1 + 1) (w.heap.size + 1 + 1 + 1) ⟨l0, l1, l2, l3, l4, l5, l6, l7, sk, 302⟩ a true 7 _ _ rfl rfl rfl (((blk_at (by simp)).alloc _).drew) ((blk_at (by simp)).drew)) rfl ?_
    exact ⟨⟨⟨l0, l1, l2, l3, l4, l5, l6, l7, sk, 302⟩, a, true⟩, fun h => absurd h (by rw [show (⟨#[82]⟩ : ByteArray) = rE from rfl, HP.out, HQ.out]; show ¬ (7 : Int) = 0; decide), by rw [show (⟨#[82]⟩ : ByteArray) = rE from rfl, HP.out, HQ.out], four_below _ _ _ _ _⟩
set_option maxRecDepth 100000 in
set_option maxHeartbeats 2000000 in
theorem rputR (l0 l1 l2 l3 l4 l5 l6 l7 : Bool) (sk rd : Int) (a b : Bool) (p : ByteArray) (hp : p.size ≤ 1000000) (hk : ¬ letK p < 8) (hS : ¬ isS p = true) (hr : ¬ p = rE) (hR : isR p = true) (w : World) :
    Calls Tryd.prog 34 #[.agg #[Value.bool l0, .bool l1, .bool l2, .bool l3, .bool l4, .bool l5, .bool l6, .bool l7, .int .i64 sk, .int .i64 rd], .agg #[.bool a, .bool b], .string p] w (PutPost w (putP ⟨⟨l0, l1, l2, l3, l4, l5, l6, l7, sk, rd⟩, a, b⟩ p)) := by
  obtain ⟨h2, he⟩ := isR_two hR
  have h2i : (2 : Int) ≤ (p.size : Int) := by omega
  have he2 := isS_not hS h2
  have her : (p.toList == [82]) = false := by rw [beq_lit]; exact decide_eq_false hr
  have HP := Lib.hid (putP_R (s := ⟨⟨l0, l1, l2, l3, l4, l5, l6, l7, sk, rd⟩, a, b⟩) hk hS hr hR)
  have n0 := let_ne hk 0 (by decide) 76 rfl
  have n1 := let_ne hk 1 (by decide) 78 rfl
  have n2 := let_ne hk 2 (by decide) 67 rfl
  have n3 := let_ne hk 3 (by decide) 69 rfl
  have n4 := let_ne hk 4 (by decide) 70 rfl
  have n5 := let_ne hk 5 (by decide) 71 rfl
  have n6 := let_ne hk 6 (by decide) 65 rfl
  have n7 := let_ne hk 7 (by decide) 68 rfl
  obtain ⟨d, hd⟩ : ∃ d, d = p.extract 2 p.size := ⟨_, rfl⟩
  have hdz : d.size ≤ 1000000 := by rw [hd, ext_len (Nat.le_refl _)]; omega
  rw [← hd] at HP
  have HD := Lib.hid hd
  clear hk hS hr hR hd
  go_enter Tryd.func34, Tryd.ntmps34
  go_wp2_with (fail)
  rw [← HD.out]
  refine (rnum d hdz _).mono ?_
  rintro e W3 ⟨rfl, rfl⟩
  clear n0 n1 n2 n3 n4 n5 n6 n7 he he2 her
  by_cases hng : numP d < 0
  · have HQ : Hid (rdP ⟨⟨l0, l1, l2, l3, l4, l5, l6, l7, sk, rd⟩, a, b⟩ (numP d) = (⟨⟨l0, l1, l2, l3, l4, l5, l6, l7, sk, rd⟩, a, b⟩, 3)) := Lib.hid (by unfold rdP; rw [if_pos hng])
    rw [numR_no hng]
    clear hng
    go_wp2_with (fail)
    go_region
    go_wp2_with (fail)
    refine bodyPost_ret (put_res (w.heap.size + 1 + 1) (w.heap.size + 1 + 1 + 1) ⟨l0, l1, l2, l3, l4, l5, l6, l7, sk, rd⟩ a b 3 _ _ rfl rfl rfl (((blk_at (by simp)).alloc _).drew) ((blk_at (by simp)).drew)) rfl ?_
    exact ⟨⟨⟨l0, l1, l2, l3, l4, l5, l6, l7, sk, rd⟩, a, b⟩, fun _ => by rw [HP.out, HQ.out], by rw [HP.out, HQ.out], four_below _ _ _ _ _⟩
  · rw [numR_is hng]
    obtain ⟨v, hv⟩ : ∃ v, v = numP d := ⟨_, rfl⟩
    rw [← hv] at hng HP ⊢
    clear hv
    cases b
    · have HQ : Hid (rdP ⟨⟨l0, l1, l2, l3, l4, l5, l6, l7, sk, rd⟩, a, false⟩ v = (⟨⟨l0, l1, l2, l3, l4, l5, l6, l7, sk, v⟩, a, true⟩, 0)) := Lib.hid (by unfold rdP; rw [if_neg hng, if_neg (show ¬ false = true by decide)])
      clear hng
      go_wp2_with (fail)
      go_region
      go_wp2_with (fail)
      refine bodyPost_ret (put_res (w.heap.size + 1 + 1) (w.heap.size + 1 + 1 + 1) ⟨l0, l1, l2, l3, l4, l5, l6, l7, sk, v⟩ a true 0 _ _ rfl rfl rfl (((blk_at (by simp)).alloc _).drew) ((blk_at (by simp)).drew)) rfl ?_
      exact ⟨⟨⟨l0, l1, l2, l3, l4, l5, l6, l7, sk, v⟩, a, true⟩, fun h => by rw [HP.out, HQ.out], by rw [HP.out, HQ.out], four_below _ _ _ _ _⟩
    · have HQ : Hid (rdP ⟨⟨l0, l1, l2, l3, l4, l5, l6, l7, sk, rd⟩, a, true⟩ v = (⟨⟨l0, l1, l2, l3, l4, l5, l6, l7, sk, rd⟩, a, true⟩, 7)) := Lib.hid (by unfold rdP; rw [if_neg hng, if_pos rfl])
      clear hng
      go_wp2_with (fail)
      go_region
      go_wp2_with (fail)
      refine bodyPost_ret (put_res (w.heap.size + 1 + 1) (w.heap.size + 1 + 1 + 1) ⟨l0, l1, l2, l3, l4, l5, l6, l7, sk, v⟩ a true 7 _ _ rfl rfl rfl (((blk_at (by simp)).alloc _).drew) ((blk_at (by simp)).drew)) rfl ?_
      exact ⟨⟨⟨l0, l1, l2, l3, l4, l5, l6, l7, sk, v⟩, a, true⟩, fun h => absurd h (by rw [HP.out, HQ.out]; show ¬ (7 : Int) = 0; decide), by rw [HP.out, HQ.out], four_below _ _ _ _ _⟩
set_option maxRecDepth 100000 in
set_option maxHeartbeats 2000000 in
theorem rputN (l0 l1 l2 l3 l4 l5 l6 l7 : Bool) (sk rd : Int) (a b : Bool) (p : ByteArray) (hp : p.size ≤ 1000000) (hk : ¬ letK p < 8) (hS : ¬ isS p = true) (hr : ¬ p = rE) (hR : ¬ isR p = true) (w : World) :
    Calls Tryd.prog 34 #[.agg #[Value.bool l0, .bool l1, .bool l2, .bool l3, .bool l4, .bool l5, .bool l6, .bool l7, .int .i64 sk, .int .i64 rd], .agg #[.bool a, .bool b], .string p] w (PutPost w (putP ⟨⟨l0, l1, l2, l3, l4, l5, l6, l7, sk, rd⟩, a, b⟩ p)) := by
  have her : (p.toList == [82]) = false := by rw [beq_lit]; exact decide_eq_false hr
  have HP := Lib.hid (putP_no (s := ⟨⟨l0, l1, l2, l3, l4, l5, l6, l7, sk, rd⟩, a, b⟩) hk hS hr hR)
  have n0 := let_ne hk 0 (by decide) 76 rfl
  have n1 := let_ne hk 1 (by decide) 78 rfl
  have n2 := let_ne hk 2 (by decide) 67 rfl
  have n3 := let_ne hk 3 (by decide) 69 rfl
  have n4 := let_ne hk 4 (by decide) 70 rfl
  have n5 := let_ne hk 5 (by decide) 71 rfl
  have n6 := let_ne hk 6 (by decide) 65 rfl
  have n7 := let_ne hk 7 (by decide) 68 rfl
  by_cases h2 : 2 ≤ p.size
  · have h2i : (2 : Int) ≤ (p.size : Int) := by omega
    have he := isS_not hS h2
    have he2 := isR_not hR h2
    clear hk hS hr hR
    go_enter Tryd.func34, Tryd.ntmps34
    go_wp2_with (fail)
    go_region
    go_wp2_with (fail)
    refine bodyPost_ret (put_res (w.heap.size + 1 + 1) (w.heap.size + 1 + 1 + 1) ⟨l0, l1, l2, l3, l4, l5, l6, l7, sk, rd⟩ a b 11 _ _ rfl rfl rfl (((blk_at (by simp)).alloc _).drew) ((blk_at (by simp)).drew)) rfl ?_
    exact ⟨⟨⟨l0, l1, l2, l3, l4, l5, l6, l7, sk, rd⟩, a, b⟩, fun _ => by rw [HP.out], by rw [HP.out], four_below _ _ _ _ _⟩
  · have h2i : ¬ (2 : Int) ≤ (p.size : Int) := by omega
    have h2j : decide ((2 : Int) ≤ (p.size : Int)) = false := decide_eq_false h2i
    clear hk hS hr hR
    go_enter Tryd.func34, Tryd.ntmps34
    go_wp2_with (fail)
    go_region
    go_wp2_with (fail)
    refine bodyPost_ret (put_res (w.heap.size + 1 + 1) (w.heap.size + 1 + 1 + 1) ⟨l0, l1, l2, l3, l4, l5, l6, l7, sk, rd⟩ a b 11 _ _ rfl rfl rfl (((blk_at (by simp)).alloc _).drew) ((blk_at (by simp)).drew)) rfl ?_
    exact ⟨⟨⟨l0, l1, l2, l3, l4, l5, l6, l7, sk, rd⟩, a, b⟩, fun _ => by rw [HP.out], by rw [HP.out], four_below _ _ _ _ _⟩
theorem rput (s : Put) (p : ByteArray) (hp : p.size ≤ 1000000) (w : World) :
    Calls Tryd.prog 34 #[Value.agg #[Value.bool s.f.last, .bool s.f.next, .bool s.f.chain, .bool s.f.fin, .bool s.f.forb, .bool s.f.gone, .bool s.f.app, .bool s.f.disc, .int .i64 s.f.skip, .int .i64 s.f.red], .agg #[.bool s.sk, .bool s.rd], .string p] w (PutPost w (putP s p)) := by
  by_cases hk : letK p < 8
  · have h1 := (letK_is hk).1 rfl
    have hpe : ∀ c : Nat, c < 256 → byS p 0 = c → p = ⟨#[UInt8.ofNat c]⟩ := fun c hc h => (one_is hc).2 ⟨h1.1, h⟩
    have : letK p = 0 ∨ letK p = 1 ∨ letK p = 2 ∨ letK p = 3 ∨ letK p = 4 ∨ letK p = 5 ∨ letK p = 6 ∨ letK p = 7 := by omega
    rcases this with e | e | e | e | e | e | e | e <;> rw [e] at h1
    · obtain rfl := hpe 76 (by decide) h1.2
      exact rput0 s.f.last s.f.next s.f.chain s.f.fin s.f.forb s.f.gone s.f.app s.f.disc s.f.skip s.f.red s.sk s.rd w
    · obtain rfl := hpe 78 (by decide) h1.2
      exact rput1 s.f.last s.f.next s.f.chain s.f.fin s.f.forb s.f.gone s.f.app s.f.disc s.f.skip s.f.red s.sk s.rd w
    · obtain rfl := hpe 67 (by decide) h1.2
      exact rput2 s.f.last s.f.next s.f.chain s.f.fin s.f.forb s.f.gone s.f.app s.f.disc s.f.skip s.f.red s.sk s.rd w
    · obtain rfl := hpe 69 (by decide) h1.2
      exact rput3 s.f.last s.f.next s.f.chain s.f.fin s.f.forb s.f.gone s.f.app s.f.disc s.f.skip s.f.red s.sk s.rd w
    · obtain rfl := hpe 70 (by decide) h1.2
      exact rput4 s.f.last s.f.next s.f.chain s.f.fin s.f.forb s.f.gone s.f.app s.f.disc s.f.skip s.f.red s.sk s.rd w
    · obtain rfl := hpe 71 (by decide) h1.2
      exact rput5 s.f.last s.f.next s.f.chain s.f.fin s.f.forb s.f.gone s.f.app s.f.disc s.f.skip s.f.red s.sk s.rd w
    · obtain rfl := hpe 65 (by decide) h1.2
      exact rput6 s.f.last s.f.next s.f.chain s.f.fin s.f.forb s.f.gone s.f.app s.f.disc s.f.skip s.f.red s.sk s.rd w
    · obtain rfl := hpe 68 (by decide) h1.2
      exact rput7 s.f.last s.f.next s.f.chain s.f.fin s.f.forb s.f.gone s.f.app s.f.disc s.f.skip s.f.red s.sk s.rd w
  · by_cases hS : isS p = true
    · exact rputS s.f.last s.f.next s.f.chain s.f.fin s.f.forb s.f.gone s.f.app s.f.disc s.f.skip s.f.red s.sk s.rd p hp hk hS w
    · by_cases hr : p = rE
      · subst hr
        exact rputr s.f.last s.f.next s.f.chain s.f.fin s.f.forb s.f.gone s.f.app s.f.disc s.f.skip s.f.red s.sk s.rd w
      · by_cases hR : isR p = true
        · exact rputR s.f.last s.f.next s.f.chain s.f.fin s.f.forb s.f.gone s.f.app s.f.disc s.f.skip s.f.red s.sk s.rd p hp hk hS hr hR w
        · exact rputN s.f.last s.f.next s.f.chain s.f.fin s.f.forb s.f.gone s.f.app s.f.disc s.f.skip s.f.red s.sk s.rd p hp hk hS hr hR w
end Go.Proofs.YtlipjagdlpkjpaaDoor
