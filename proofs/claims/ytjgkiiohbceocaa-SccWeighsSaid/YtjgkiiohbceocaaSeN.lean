/-
  The law SccReaches, walked: it returns true; no condition.
-/
import Derived.Test.YtjgkiiohbceocaaSeK
import Derived.BigQuiet
namespace Go.Proofs.Ytjgkiiohbceocaa
open Go.RowKit
set_option linter.unusedVariables false
set_option linter.unusedSimpArgs false

set_option maxRecDepth 100000 in
theorem kmodE (a m : Int) (w : World) (ha : -9223372036854775808 ≤ a ∧ a ≤ 9223372036854775807) (hm : 1 ≤ m ∧ m ≤ 9223372036854775807) :
    Calls Try.prog 39 #[.int .i64 a, .int .i64 m] w fun e w' => e = .returned (.int .i64 (a % m)) ∧ w = w' := by
  obtain ⟨a0, a1⟩ := ha
  obtain ⟨m0, m1⟩ := hm
  go_enter Try.func39, Try.ntmps39
  go_wp2_with (fail)
  · rename_i hneg
    go_ret
    refine ⟨ret_int ?_, rfl⟩
    have e := mod_neg a m (by omega) (by omega)
    rw [e]
    have b1 := Int.emod_nonneg a (show m ≠ 0 by omega)
    have b2 := Int.emod_lt_of_pos a (show 0 < m by omega)
    unfold wrap64; omega
  · rename_i hpos
    go_ret
    exact ⟨ret_int (mod_pos a m (by omega) (by omega)), rfl⟩
set_option maxRecDepth 100000 in
set_option maxHeartbeats 4000000 in
theorem has_law (q : List Nat) (x : Nat) (v : Value) (hl : q.length ≤ 1000000) (w : World) (hq : NatsAt w v q) :
    Calls Try.prog 40 #[v, .int .i64 (x : Int)] w fun e w' => e = .returned (.bool (decide (x ∈ q))) ∧ w = w' := by
  obtain ⟨A, c, hv, _⟩ := hq.ex
  obtain ⟨n, hn⟩ : ∃ n, n = q.length := ⟨_, rfl⟩
  rw [← hn] at hv
  subst hv
  have H := Lib.hid (And.intro hq hn)
  have hn6 : n ≤ 1000000 := by omega
  clear hq hn
  go_enter Try.func40, Try.ntmps40
  go_wp2_with (fail)
  go_loopg [5] n (fun g iv wr => ∃ i : Nat, g = n - i ∧ i ≤ n ∧ iv = .int .i64 (i : Int) ∧ w = wr ∧ x ∉ q.take i)
  case atStart => exact ⟨0, rfl, Nat.zero_le _, rfl, rfl, by rw [List.take_zero]; exact fun h => by cases h⟩
  case round =>
    obtain ⟨i, hg, hi, rfl, rfl, hno⟩ := hrel
    by_cases hin : i < n
    · have hi' : (i : Int) < (n : Int) := by omega
      obtain ⟨y, hy⟩ : ∃ y, q[i]? = some y := ⟨_, List.getElem?_eq_getElem (by rw [← H.out.2]; exact hin)⟩
      obtain ⟨gq, oq, rfl, hlq, hcq⟩ := cell_nats H.out.1 rfl hy
      by_cases hyx : y = x
      · subst hyx
        have hin2 : y ∈ q := List.mem_of_getElem? hy
        have F := Lib.hid hin2
        clear hg hno hy hin2
        go_wp2_with (fail)
        go_ret
        exact ⟨by rw [decide_eq_true F.out]; rfl, rfl⟩
      · have hyx' : ¬ ((y : Int) = (x : Int)) := by omega
        have hno2 : x ∉ q.take (i + 1) := by
          rw [List.take_add_one, hy]
          intro h
          rcases List.mem_append.1 h with h | h
          · exact hno h
          · simp at h; exact hyx h.symm
        have F := Lib.hid (And.intro hg hno2)
        clear hg hno hno2 hy hyx
        go_wp2_with (fail)
        go_roundg (n - (i + 1))
        case measure => have := F.out.1; omega
        case rel => exact ⟨i + 1, rfl, hin, by simp, rfl, F.out.2⟩
    · have ei : i = n := by omega
      subst i
      rw [H.out.2, List.take_length] at hno
      have F := Lib.hid hno
      clear hno hg hin
      go_wp2_with (fail)
      go_ret
      exact ⟨by rw [decide_eq_false F.out]; rfl, rfl⟩

/-! What the law asks. -/
theorem walk_steps {E : Nat → Nat → Bool} : ∀ {q : List Nat} {a b : Nat}, walkB E a q b → ∀ (k u v : Nat), (a :: q)[k]? = some u → (a :: q)[k + 1]? = some v → E u v = true
  | [], a, b, _, k, u, v, hu, hv => by
    simp at hv
  | x :: q, a, b, h, 0, u, v, hu, hv => by
    simp at hu hv
    subst hu hv
    exact h.1
  | x :: q, a, b, h, k + 1, u, v, hu, hv => walk_steps h.2 k u v hu hv
theorem edge_in {m : Nat} {l : List Edg} (hv : ∀ e ∈ l, okEd m e) {u v : Nat} (h : relE l u v = true) : conE (u, v) ∈ l := by
  unfold relE at h
  rw [List.any_eq_true] at h
  obtain ⟨e, he, h⟩ := h
  rw [Bool.and_eq_true, decide_eq_true_eq, decide_eq_true_eq] at h
  have : e = conE (u, v) := by
    obtain ⟨f, t⟩ := e
    show Edg.mk f t = ⟨((u : Nat) : Int), ((v : Nat) : Int)⟩
    rw [show f = (u : Int) from h.1, show t = (v : Int) from h.2]
  rw [← this]; exact he
structure WayOk (m : Nat) (l : List Edg) (a b : Nat) (W : List Nat) : Prop where
  len : 2 ≤ W.length ∧ W.length ≤ m + 1
  fst : W[0]? = some a
  lst : W[W.length - 1]? = some b
  edge : ∀ k, k + 1 < W.length → ∃ u v, W[k]? = some u ∧ W[k + 1]? = some v ∧ conE (u, v) ∈ l
structure RchOk (m : Nat) (l : List Edg) (a b : Nat) (ls : List (List Nat)) (X Y W : List Nat) (rb : Bool) : Prop where
  np : ls.length ≤ 64
  xl : X.length ≤ 1000000 ∧ Y.length ≤ 1000000
  mem : rb = decide (b ∈ X)
  part : ∀ (k : Nat) (cc : List Nat), ls[k]? = some cc → cc.length ≤ 64 ∧ (a ∈ cc → (a = b → b ∈ cc) ∧ (a ≠ b → decide (b ∈ cc) = (rb && decide (a ∈ Y))))
  way : rb = true → WayOk m l a b W
  noway : rb = false → W = []
theorem rch_ok {m : Nat} {l : List Edg} {a b : Nat} (h : (chkG (m : Int) l).1 = 0) (ha : a < m) (hb : b < m) :
    ∃ rb, eReach (m : Int) l (a : Int) = 0 ∧ eReach (m : Int) l (b : Int) = 0 ∧ ePath (m : Int) l (a : Int) (b : Int) = (if rb = true then 0 else 3) ∧ RchOk m l a b (vParts (m : Int) l) (vReach (m : Int) l (a : Int)) (vReach (m : Int) l (b : Int)) (vPath (m : Int) l (a : Int) (b : Int)) rb := by
  obtain ⟨m', e1, hm, hv, hw, ht⟩ := ok_nat h
  obtain rfl : m = m' := by omega
  have hR : rR (m : Int) l = rea m (relE l) := by unfold rR; rw [Int.toNat_natCast]
  have hP : pV (m : Int) l = partsV m (rea m (relE l)) := by unfold pV; rw [hR, Int.toNat_natCast]
  have h1 : vParts (m : Int) l = partsV m (rea m (relE l)) := by unfold vParts; rw [if_pos h, hP]
  have hpw := parts_what ht hm
  have ea : eReach (m : Int) l (a : Int) = 0 := by unfold eReach; rw [if_pos h, if_pos ⟨by omega, by omega⟩]
  have eb : eReach (m : Int) l (b : Int) = 0 := by unfold eReach; rw [if_pos h, if_pos ⟨by omega, by omega⟩]
  have va : vReach (m : Int) l (a : Int) = (List.range m).filter fun i => rea m (relE l) a i := by
    unfold vReach; rw [if_pos ea]; unfold reachV; rw [hR, Int.toNat_natCast, Int.toNat_natCast]
  have vb : vReach (m : Int) l (b : Int) = (List.range m).filter fun i => rea m (relE l) b i := by
    unfold vReach; rw [if_pos eb]; unfold reachV; rw [hR, Int.toNat_natCast, Int.toNat_natCast]
  have ep : ePath (m : Int) l (a : Int) (b : Int) = if rea m (relE l) a b = true then 0 else 3 := by
    unfold ePath; rw [if_pos h, if_pos ⟨⟨by omega, by omega⟩, by omega, by omega⟩, hR, Int.toNat_natCast, Int.toNat_natCast]
  have hlen := ways_len (m : Int) l (a : Int) (b : Int) []
  have hlen2 := ways_len (m : Int) l (b : Int) (b : Int) []
  have hmx : ∀ t, t < m → (t ∈ (List.range m).filter (fun i => rea m (relE l) a i) ↔ rea m (relE l) a t = true) := fun t ht => by
    rw [List.mem_filter, List.mem_range]; exact ⟨fun h => h.2, fun h => ⟨ht, h⟩⟩
  have hmy : ∀ t, t < m → (t ∈ (List.range m).filter (fun i => rea m (relE l) b i) ↔ rea m (relE l) b t = true) := fun t ht => by
    rw [List.mem_filter, List.mem_range]; exact ⟨fun h => h.2, fun h => ⟨ht, h⟩⟩
  refine ⟨rea m (relE l) a b, ea, eb, ep, ?_⟩
  rw [h1, va, vb]
  refine ⟨hpw.1, ⟨by rw [← va]; exact hlen.1, by rw [← vb]; exact hlen2.1⟩, ?_, fun k cc hc => ⟨(hpw.2 cc (List.mem_of_getElem? hc)).2.1, fun hac => ⟨fun e => e ▸ hac, fun hne => ?_⟩⟩, fun hr => ?_, fun hr => ?_⟩
  · rw [Bool.eq_iff_iff, decide_eq_true_eq, hmx b hb]
  · obtain ⟨r, _, rfl⟩ := partsV_at hc
    have hra := (mem_mem.1 hac).2
    rw [Bool.eq_iff_iff, Bool.and_eq_true, decide_eq_true_eq, decide_eq_true_eq, hmy a ha, mem_mem]
    constructor
    · rintro ⟨_, hrb⟩
      have := tog_trans ht (tog_symm hra) hrb
      rcases tog_iff.1 this with e | e
      · exact absurd e hne
      · exact e
    · intro e
      exact ⟨hb, tog_trans ht hra (tog_iff.2 (.inr e))⟩
  · have hz : ePath (m : Int) l (a : Int) (b : Int) = 0 := by rw [ep, if_pos hr]
    have hW : vPath (m : Int) l (a : Int) (b : Int) = pathV m (relE l) a b := by
      unfold vPath; rw [if_pos hz]; simp only [Int.toNat_natCast]
    rw [hW]
    have hf := (far_iff hw).1 hr
    obtain ⟨d, hd⟩ : ∃ d, farS m (relE l) b m a = d + 1 := ⟨farS m (relE l) b m a - 1, by omega⟩
    have hbd := farS_bound hw (t := b) (i := a) (N := m)
    obtain ⟨g1, g2, _⟩ := gre_what hw d a hd
    unfold pathV
    rw [hd, Nat.add_sub_cancel]
    obtain ⟨Q, hQ⟩ : ∃ Q, Q = gre m (relE l) (farS m (relE l) b m) d a := ⟨_, rfl⟩
    rw [← hQ] at g1 g2 ⊢
    refine ⟨⟨by rw [List.length_cons, g2]; omega, by rw [List.length_cons, g2]; omega⟩, rfl, ?_, fun k hk => ?_⟩
    · rw [List.length_cons, Nat.add_sub_cancel, List.length_append, List.length_singleton, List.getElem?_cons_succ, List.getElem?_append_right (Nat.le_refl _), Nat.sub_self]; rfl
    · have hu : (a :: (Q ++ [b]))[k]? = some (a :: (Q ++ [b]))[k] := List.getElem?_eq_getElem (by omega)
      have hv2 : (a :: (Q ++ [b]))[k + 1]? = some (a :: (Q ++ [b]))[k + 1] := List.getElem?_eq_getElem hk
      exact ⟨_, _, hu, hv2, edge_in hv (walk_steps g1 k _ _ hu hv2)⟩
  · have hz : ePath (m : Int) l (a : Int) (b : Int) = 3 := by rw [ep, hr, if_neg (by decide)]
    unfold vPath; rw [hz, if_neg (by decide)]
def fndE (l : List Edg) (u v j : Nat) : Bool := (l.take j).any fun e => decide (e.f = (u : Int)) && decide (e.t = (v : Int))
theorem fndE_step {l : List Edg} {u v j : Nat} {e : Edg} (h : l[j]? = some e) : fndE l u v (j + 1) = (fndE l u v j || (decide (e.f = (u : Int)) && decide (e.t = (v : Int)))) := by
  unfold fndE
  rw [List.take_add_one, h, List.any_append]
  simp
theorem fndE_all {l : List Edg} {u v : Nat} (h : conE (u, v) ∈ l) : fndE l u v l.length = true := by
  unfold fndE
  rw [List.take_length, List.any_eq_true]
  exact ⟨_, h, by rw [Bool.and_eq_true, decide_eq_true_eq, decide_eq_true_eq]; exact ⟨rfl, rfl⟩⟩

set_option maxRecDepth 100000 in
set_option maxHeartbeats 16000000 in
theorem law_reaches (n : Int) (nl : List Int) (a0 b0 : Int) (A : Option Addr) (c : Nat) (w : World) (hn : -9223372036854775808 ≤ n ∧ n ≤ 9223372036854775807) (ha : -9223372036854775808 ≤ a0 ∧ a0 ≤ 9223372036854775807) (hb0 : -9223372036854775808 ≤ b0 ∧ b0 ≤ 9223372036854775807) (hA : Cells w A 1 nl.length (intsAt nl)) (hb : ∀ x ∈ nl, -9223372036854775808 ≤ x ∧ x ≤ 9223372036854775807) :
    Calls Try.prog 7 #[.int .i64 n, .slice A nl.length c, .int .i64 a0, .int .i64 b0] w fun e w' => e = .returned (.bool true) ∧ Below w.heap.size w w' := by
  have hmd := fun W hW => made_law n nl hn hb A c W hW
  obtain ⟨ln, hln⟩ : ∃ ln, ln = nl.length := ⟨_, rfl⟩
  have H := Lib.hid (And.intro hmd (And.intro hA (And.intro ha hb0)))
  rw [← hln] at H ⊢
  clear hmd hA hb hn hln ha hb0
  go_enter Try.func7, Try.ntmps7
  go_wp2_with (fail)
  refine (law_known _).mono ?_
  rintro e W1 ⟨rfl, h1⟩
  have hA1 := H.out.2.1.below h1
  have D := Lib.hid (And.intro h1 hA1)
  clear h1 hA1
  go_wp2_with (fail)
  refine (H.out.1 _ (by have := D.out.2; exact this)).mono ?_
  rintro e W2 ⟨m, l, B, d, rfl, hm, hlen, hck, hB, h2⟩
  have ha := gr_alloc (Below.refl W2.heap.size W2) (.cells #[.int .i64 (m : Int), .slice B l.length d] 24)
  have kG := Blk.new W2 24 #[.int .i64 (m : Int), .slice B l.length d]
  have hll : l.length ≤ 1000000 := by omega
  have hB3 := hB.below ha
  obtain ⟨ne, hne⟩ : ∃ x, x = l.length := ⟨_, rfl⟩
  by_cases hm0 : m = 0
  · have hm0' : ((m : Int) == 0) = true := by simpa using hm0
    have g0 := kG.cell' (i := 0) rfl
    have gl := kG.lt
    have Z := Lib.hid (gr_call D.out.1 (gr_call h2 ha))
    clear hB hB3 ha kG h2 hck hm0
    go_wp2_with (fail)
    go_ret
    exact ⟨rfl, Z.out⟩
  have hm0' : ((m : Int) == 0) = false := by simpa using hm0
  obtain ⟨a, hae⟩ : ∃ a : Nat, a0 % (m : Int) = (a : Int) := ⟨(a0 % (m : Int)).toNat, by have := Int.emod_nonneg a0 (show (m : Int) ≠ 0 by omega); omega⟩
  obtain ⟨b, hbe⟩ : ∃ b : Nat, b0 % (m : Int) = (b : Int) := ⟨(b0 % (m : Int)).toNat, by have := Int.emod_nonneg b0 (show (m : Int) ≠ 0 by omega); omega⟩
  have ham : a < m := by have := Int.emod_lt_of_pos a0 (show (0 : Int) < (m : Int) by omega); omega
  have hbm : b < m := by have := Int.emod_lt_of_pos b0 (show (0 : Int) < (m : Int) by omega); omega
  obtain ⟨rb, hra, hrb, hpe, hok⟩ := rch_ok hck ham hbm
  obtain ⟨ls, hls⟩ : ∃ x, x = vParts (m : Int) l := ⟨_, rfl⟩
  obtain ⟨X, hX⟩ : ∃ x, x = vReach (m : Int) l (a : Int) := ⟨_, rfl⟩
  obtain ⟨Y, hY⟩ : ∃ x, x = vReach (m : Int) l (b : Int) := ⟨_, rfl⟩
  obtain ⟨Wy, hWy⟩ : ∃ x, x = vPath (m : Int) l (a : Int) (b : Int) := ⟨_, rfl⟩
  rw [← hls, ← hX, ← hY, ← hWy] at hok
  obtain ⟨np, hnp⟩ : ∃ x, x = ls.length := ⟨_, rfl⟩
  obtain ⟨nw, hnw⟩ : ∃ x, x = Wy.length := ⟨_, rfl⟩
  have hnp64 : np ≤ 64 := by rw [hnp]; exact hok.np
  have hc1 := fun W hW => reach_code (m : Int) l (a : Int) hll B d W hW
  have hc2 := fun W hW => reach_code (m : Int) l (b : Int) hll B d W hW
  have hc3 := fun W hW => path_code (m : Int) l (a : Int) (b : Int) hll B d W hW
  have hc4 := fun W hW => parts_code (m : Int) l hll B d W hW
  rw [hra, ← hX, ← hne] at hc1
  rw [hrb, ← hY, ← hne] at hc2
  rw [hpe, ← hWy, ← hne] at hc3
  rw [hck, ← hls, ← hne] at hc4
  rw [← hne] at kG hB3 hll ha ⊢
  have O := Lib.hid (And.intro hok (And.intro hnp (And.intro hnw (And.intro hne (And.intro hc1 (And.intro hc2 (And.intro hc3 (And.intro hc4 (And.intro hae hbe)))))))))
  clear hls hX hY hWy hnp hnw hne hra hrb hpe hc1 hc2 hc3 hc4 hae hbe hok hck
  have S := Lib.hid (And.intro (gr_call D.out.1 (gr_call h2 ha)) (And.intro (kG) (hB3)))
  clear h2 ha kG hB hB3 D hlen
  have g0 := (S.out.2.1).cell' (i := 0) rfl
  have g1 := (S.out.2.1).cell' (i := 1) rfl
  have gl := (S.out.2.1).lt
  have hmb : 1 ≤ (m : Int) ∧ (m : Int) ≤ 9223372036854775807 := by omega
  go_wp2_with (fail)
  go_quiet (first
    | (go_at_call 39; exact quiet_left (kmodE _ _ _ (by first | exact H.out.2.2.1 | exact H.out.2.2.2) hmb))
    | (go_at_call 39; exact quiet_add_left (kmodE _ _ _ (by first | exact H.out.2.2.1 | exact H.out.2.2.2) hmb)))
  rw [O.out.2.2.2.2.2.2.2.2.1, O.out.2.2.2.2.2.2.2.2.2]
  obtain ⟨W3, hW3⟩ : ∃ X, (W2.alloc (.cells #[.int .i64 (m : Int), .slice B ne d] 24)).drewN nq = X := ⟨_, rfl⟩
  have h : Below (W2.alloc (.cells #[.int .i64 (m : Int), .slice B ne d] 24)).heap.size (W2.alloc (.cells #[.int .i64 (m : Int), .slice B ne d] 24)) W3 := by rw [← hW3]; exact below_drewN (Below.refl _ _) _
  rw [hW3]
  clear hW3 g0 g1 gl
  have S2 := Lib.hid (And.intro (gr_call (S.out.1) h) (And.intro ((S.out.2.1).call h) ((S.out.2.2).below h)))
  clear S h
  have S := Lib.hid S2.out
  clear S2
  have g0 := (S.out.2.1).cell' (i := 0) rfl
  have g1 := (S.out.2.1).cell' (i := 1) rfl
  have gl := (S.out.2.1).lt
  go_wp2_with (fail)
  refine (O.out.2.2.2.2.1 _ (S.out.2.2)).mono ?_
  rintro e V4 ⟨v1, rfl, x, h⟩
  clear g0 g1 gl
  obtain ⟨Av1, cv1, rfl, _⟩ := x.ex
  have S2 := Lib.hid (And.intro (gr_call (S.out.1) h) (And.intro ((S.out.2.1).call h) (And.intro ((S.out.2.2).below h) (x))))
  clear S h x
  have S := Lib.hid S2.out
  clear S2
  have g0 := (S.out.2.1).cell' (i := 0) rfl
  have g1 := (S.out.2.1).cell' (i := 1) rfl
  have gl := (S.out.2.1).lt
  go_wp2_with (fail)
  refine (O.out.2.2.2.2.2.1 _ (S.out.2.2.1)).mono ?_
  rintro e V5 ⟨v2, rfl, x, h⟩
  clear g0 g1 gl
  obtain ⟨Av2, cv2, rfl, _⟩ := x.ex
  have S2 := Lib.hid (And.intro (gr_call (S.out.1) h) (And.intro ((S.out.2.1).call h) (And.intro ((S.out.2.2.1).below h) (And.intro ((S.out.2.2.2).below h) (x)))))
  clear S h x
  have S := Lib.hid S2.out
  clear S2
  have g0 := (S.out.2.1).cell' (i := 0) rfl
  have g1 := (S.out.2.1).cell' (i := 1) rfl
  have gl := (S.out.2.1).lt
  cases rb with
  | false =>
    have hc3 := O.out.2.2.2.2.2.2.1
    rw [if_neg (by decide)] at hc3
    have HC3 := Lib.hid hc3
    clear hc3
    go_wp2_with (fail)
    refine (HC3.out _ (S.out.2.2.1)).mono ?_
    rintro e V6 ⟨v3, rfl, x, h⟩
    clear g0 g1 gl
    obtain ⟨Av3, cv3, rfl, _⟩ := x.ex
    rw [← O.out.2.2.1] at x ⊢
    have S2 := Lib.hid (And.intro (gr_call (S.out.1) h) (And.intro ((S.out.2.1).call h) (And.intro ((S.out.2.2.1).below h) (And.intro ((S.out.2.2.2.1).below h) (And.intro ((S.out.2.2.2.2).below h) (x))))))
    clear S h x
    have S := Lib.hid S2.out
    clear S2
    have g0 := (S.out.2.1).cell' (i := 0) rfl
    have g1 := (S.out.2.1).cell' (i := 1) rfl
    have gl := (S.out.2.1).lt
    go_wp2_with (fail)
    refine (O.out.2.2.2.2.2.2.2.1 _ (S.out.2.2.1)).mono ?_
    rintro e V7 ⟨v4, rfl, x, h⟩
    clear g0 g1 gl
    obtain ⟨Av4, cv4, rfl, _⟩ := x.ex
    rw [← O.out.2.1] at x ⊢
    have S2 := Lib.hid (And.intro (gr_call (S.out.1) h) (And.intro ((S.out.2.1).call h) (And.intro ((S.out.2.2.1).below h) (And.intro ((S.out.2.2.2.1).below h) (And.intro ((S.out.2.2.2.2.1).below h) (And.intro ((S.out.2.2.2.2.2).below h) (x)))))))
    clear S h x
    have S := Lib.hid S2.out
    clear S2
    have g0 := (S.out.2.1).cell' (i := 0) rfl
    have g1 := (S.out.2.1).cell' (i := 1) rfl
    have gl := (S.out.2.1).lt
    clear HC3
    have hh := has_law X b (.slice Av1 X.length cv1) O.out.1.xl.1 V7 (S.out.2.2.2.1)
    rw [← O.out.1.mem] at hh
    have HH := Lib.hid hh
    clear hh
    go_wp2_with (fail)
    refine HH.out.mono ?_
    rintro e W ⟨rfl, rfl⟩
    go_wp2_with (fail)
    clear g0 g1 gl
    go_loopg [19] np (fun q kv wr => ∃ k : Nat, q = np - k ∧ k ≤ np ∧ kv = .int .i64 (k : Int) ∧ V7 = wr)
    case atStart => exact ⟨0, rfl, Nat.zero_le _, rfl, rfl⟩
    case round =>
      obtain ⟨k, hq, hk, rfl, rfl⟩ := hrel
      by_cases hkn : k < np
      · have hk' : (k : Int) < (np : Int) := by omega
        obtain ⟨cc', hcc⟩ : ∃ c, ls[k]? = some c := ⟨_, List.getElem?_eq_getElem (by rw [← O.out.2.1]; exact hkn)⟩
        obtain ⟨h64, hpart⟩ := O.out.1.part k cc' hcc
        obtain ⟨gp, u1, hA1, hl1, hc1, hu1⟩ := cell_ll (S.out.2.2.2.2.2.2) rfl hcc
        subst hA1
        have hlcc : cc'.length ≤ 1000000 := by omega
        have ha1 := has_law cc' a u1 hlcc V7 hu1
        have hb1 := has_law cc' b u1 hlcc V7 hu1
        obtain ⟨ua, uc, rfl, _⟩ := hu1.ex
        by_cases hac : a ∈ cc'
        · rw [decide_eq_true hac] at ha1
          by_cases hab : a = b
          · have hbc := (hpart hac).1 hab
            rw [decide_eq_true hbc] at hb1
            have hab' : ((a : Int) == (b : Int)) = true := by simp; omega
            have F := Lib.hid (And.intro hq (And.intro ha1 hb1))
            clear hq ha1 hb1 hbc hac hcc hpart hu1 hab
            go_wp2_with (fail)
            refine (F.out.2.1).mono ?_
            rintro e W ⟨rfl, rfl⟩
            go_wp2_with (fail)
            refine (F.out.2.2).mono ?_
            rintro e W ⟨rfl, rfl⟩
            go_wp2_with (fail)
            go_roundg (np - (k + 1))
            case measure => have := F.out.1; omega
            case rel => exact ⟨k + 1, rfl, hkn, by simp, rfl⟩
          · have hbc := (hpart hac).2 hab
            have hab' : ((a : Int) == (b : Int)) = false := by simp; omega
            rw [Bool.false_and] at hbc
            rw [hbc] at hb1
            have F := Lib.hid (And.intro hq (And.intro ha1 hb1))
            clear hq ha1 hb1 hac hcc hpart hu1 hbc hab
            go_wp2_with (fail)
            refine (F.out.2.1).mono ?_
            rintro e W ⟨rfl, rfl⟩
            go_wp2_with (fail)
            refine (F.out.2.2).mono ?_
            rintro e W ⟨rfl, rfl⟩
            go_wp2_with (fail)
            refine (HH.out).mono ?_
            rintro e W ⟨rfl, rfl⟩
  
            all_goals (
              go_wp2_with (fail)
              go_roundg (np - (k + 1))
              case measure => have := F.out.1; omega
              case rel => exact ⟨k + 1, rfl, hkn, by simp, rfl⟩)
        · rw [decide_eq_false hac] at ha1
          have F := Lib.hid (And.intro hq ha1)
          clear hq ha1 hb1 hac hcc hpart hu1
          go_wp2_with (fail)
          refine (F.out.2).mono ?_
          rintro e W ⟨rfl, rfl⟩
          go_wp2_with (fail)
          go_roundg (np - (k + 1))
          case measure => have := F.out.1; omega
          case rel => exact ⟨k + 1, rfl, hkn, by simp, rfl⟩
      · have ek : k = np := by omega
        subst k
        have g0 := (S.out.2.1).cell' (i := 0) rfl
        have gl := (S.out.2.1).lt
        clear hq hkn
        have hnw0 : nw = 0 := by rw [O.out.2.2.1, O.out.1.noway rfl]; rfl
        subst hnw0
        go_wp2_with (fail)
        go_ret
        exact ⟨rfl, (S.out.1)⟩
  | true =>
    have hc3 := O.out.2.2.2.2.2.2.1
    rw [if_pos rfl] at hc3
    have HC3 := Lib.hid hc3
    clear hc3
    go_wp2_with (fail)
    refine (HC3.out _ (S.out.2.2.1)).mono ?_
    rintro e V6 ⟨v3, rfl, x, h⟩
    clear g0 g1 gl
    obtain ⟨Av3, cv3, rfl, _⟩ := x.ex
    rw [← O.out.2.2.1] at x ⊢
    have S2 := Lib.hid (And.intro (gr_call (S.out.1) h) (And.intro ((S.out.2.1).call h) (And.intro ((S.out.2.2.1).below h) (And.intro ((S.out.2.2.2.1).below h) (And.intro ((S.out.2.2.2.2).below h) (x))))))
    clear S h x
    have S := Lib.hid S2.out
    clear S2
    have g0 := (S.out.2.1).cell' (i := 0) rfl
    have g1 := (S.out.2.1).cell' (i := 1) rfl
    have gl := (S.out.2.1).lt
    go_wp2_with (fail)
    refine (O.out.2.2.2.2.2.2.2.1 _ (S.out.2.2.1)).mono ?_
    rintro e V7 ⟨v4, rfl, x, h⟩
    clear g0 g1 gl
    obtain ⟨Av4, cv4, rfl, _⟩ := x.ex
    rw [← O.out.2.1] at x ⊢
    have S2 := Lib.hid (And.intro (gr_call (S.out.1) h) (And.intro ((S.out.2.1).call h) (And.intro ((S.out.2.2.1).below h) (And.intro ((S.out.2.2.2.1).below h) (And.intro ((S.out.2.2.2.2.1).below h) (And.intro ((S.out.2.2.2.2.2).below h) (x)))))))
    clear S h x
    have S := Lib.hid S2.out
    clear S2
    have g0 := (S.out.2.1).cell' (i := 0) rfl
    have g1 := (S.out.2.1).cell' (i := 1) rfl
    have gl := (S.out.2.1).lt
    clear HC3
    have hh := has_law X b (.slice Av1 X.length cv1) O.out.1.xl.1 V7 (S.out.2.2.2.1)
    rw [← O.out.1.mem] at hh
    have HH := Lib.hid hh
    clear hh
    go_wp2_with (fail)
    refine HH.out.mono ?_
    rintro e W ⟨rfl, rfl⟩
    go_wp2_with (fail)
    clear g0 g1 gl
    go_loopg [19] np (fun q kv wr => ∃ k : Nat, q = np - k ∧ k ≤ np ∧ kv = .int .i64 (k : Int) ∧ V7 = wr)
    case atStart => exact ⟨0, rfl, Nat.zero_le _, rfl, rfl⟩
    case round =>
      obtain ⟨k, hq, hk, rfl, rfl⟩ := hrel
      by_cases hkn : k < np
      · have hk' : (k : Int) < (np : Int) := by omega
        obtain ⟨cc', hcc⟩ : ∃ c, ls[k]? = some c := ⟨_, List.getElem?_eq_getElem (by rw [← O.out.2.1]; exact hkn)⟩
        obtain ⟨h64, hpart⟩ := O.out.1.part k cc' hcc
        obtain ⟨gp, u1, hA1, hl1, hc1, hu1⟩ := cell_ll (S.out.2.2.2.2.2.2) rfl hcc
        subst hA1
        have hlcc : cc'.length ≤ 1000000 := by omega
        have ha1 := has_law cc' a u1 hlcc V7 hu1
        have hb1 := has_law cc' b u1 hlcc V7 hu1
        obtain ⟨ua, uc, rfl, _⟩ := hu1.ex
        by_cases hac : a ∈ cc'
        · rw [decide_eq_true hac] at ha1
          by_cases hab : a = b
          · have hbc := (hpart hac).1 hab
            rw [decide_eq_true hbc] at hb1
            have hab' : ((a : Int) == (b : Int)) = true := by simp; omega
            have F := Lib.hid (And.intro hq (And.intro ha1 hb1))
            clear hq ha1 hb1 hbc hac hcc hpart hu1 hab
            go_wp2_with (fail)
            refine (F.out.2.1).mono ?_
            rintro e W ⟨rfl, rfl⟩
            go_wp2_with (fail)
            refine (F.out.2.2).mono ?_
            rintro e W ⟨rfl, rfl⟩
            go_wp2_with (fail)
            go_roundg (np - (k + 1))
            case measure => have := F.out.1; omega
            case rel => exact ⟨k + 1, rfl, hkn, by simp, rfl⟩
          · have hbc := (hpart hac).2 hab
            have hab' : ((a : Int) == (b : Int)) = false := by simp; omega
            have hy1 := has_law Y a (.slice Av2 Y.length cv2) O.out.1.xl.2 V7 (S.out.2.2.2.2.1)
            obtain ⟨ya, hya⟩ : ∃ x, x = decide (a ∈ Y) := ⟨_, rfl⟩
            rw [← hya] at hy1 hbc
            rw [hbc] at hb1
            have F := Lib.hid (And.intro hq (And.intro ha1 (And.intro hb1 hy1)))
            clear hq ha1 hb1 hy1 hac hcc hpart hu1 hya hbc hab
            go_wp2_with (fail)
            refine (F.out.2.1).mono ?_
            rintro e W ⟨rfl, rfl⟩
            go_wp2_with (fail)
            refine (F.out.2.2.1).mono ?_
            rintro e W ⟨rfl, rfl⟩
            go_wp2_with (fail)
            refine (HH.out).mono ?_
            rintro e W ⟨rfl, rfl⟩
            go_wp2_with (fail)
            refine (F.out.2.2.2).mono ?_
            rintro e W ⟨rfl, rfl⟩
            cases ya
            all_goals (
              go_wp2_with (fail)
              go_roundg (np - (k + 1))
              case measure => have := F.out.1; omega
              case rel => exact ⟨k + 1, rfl, hkn, by simp, rfl⟩)
        · rw [decide_eq_false hac] at ha1
          have F := Lib.hid (And.intro hq ha1)
          clear hq ha1 hb1 hac hcc hpart hu1
          go_wp2_with (fail)
          refine (F.out.2).mono ?_
          rintro e W ⟨rfl, rfl⟩
          go_wp2_with (fail)
          go_roundg (np - (k + 1))
          case measure => have := F.out.1; omega
          case rel => exact ⟨k + 1, rfl, hkn, by simp, rfl⟩
      · have ek : k = np := by omega
        subst k
        have g0 := (S.out.2.1).cell' (i := 0) rfl
        have gl := (S.out.2.1).lt
        clear hq hkn
        have wk := O.out.1.way rfl
        have wl1 := wk.len.1
        have wl2 := wk.len.2
        have wfst := wk.fst
        have wlst := wk.lst
        have wedge := wk.edge
        rw [← O.out.2.2.1] at wl1 wl2 wlst wedge
        obtain ⟨nv, hnv⟩ : ∃ x, x = nw - 1 := ⟨_, rfl⟩
        rw [← hnv] at wlst
        obtain ⟨g3, o3, hA3, hl3, hcf⟩ := cell_nats (S.out.2.2.2.2.2.1) rfl wfst
        obtain ⟨g3', o3', hA3', hl3', hcl⟩ := cell_nats (S.out.2.2.2.2.2.1) rfl wlst
        rw [hA3] at hA3'
        cases hA3'
        subst hA3
        rw [Nat.add_zero] at hcf
        have wnv : IntKind.i64.wrap ((nw : Int) - 1) = (nv : Int) := (IntWalk.i64_in _ (by omega)).trans (by omega)
        have hnv' : (nv : Int) < (nw : Int) := by omega
        have hw2 : ¬ (nw : Int) < 2 := by omega
        have hw2' : ¬ nw < 2 := by omega
        have hwm : ¬ ((m : Int) + 1 < (nw : Int)) := by omega
        have hwm' : ¬ (m + 1 < nw) := by omega
        have hw0 : (0 : Int) < (nw : Int) := by omega
        have hw0' : 0 < nw := by omega
        have WE := Lib.hid (And.intro wedge hnv)
        have hnw20 : nw ≤ 20 := by omega
        have hm12 : m ≤ 12 := hm
        clear wk wl1 wl2 wfst wlst wedge hnv
        go_wp2_with (fail)
        clear hcf hcl g0 gl
        go_loopg [20] (nw - 1) (fun q kv wr => ∃ k : Nat, q = nw - k ∧ 1 ≤ k ∧ k ≤ nw ∧ kv = .int .i64 (k : Int) ∧ Below V7.heap.size V7 wr)
        case atStart => exact ⟨1, rfl, Nat.le_refl _, by omega, rfl, Below.refl _ _⟩
        case round =>
          obtain ⟨k, hq, hk1, hk, rfl, hbel⟩ := hrel
          by_cases hkn : k < nw
          · have hk' : (k : Int) < (nw : Int) := by omega
            obtain ⟨k1, hk1e⟩ : ∃ x, x = k - 1 := ⟨_, rfl⟩
            obtain ⟨u, v, hu, hv, hin⟩ := WE.out.1 k1 (by omega)
            rw [show k1 + 1 = k by omega] at hv
            have wk1 : IntKind.i64.wrap ((k : Int) - 1) = (k1 : Int) := (IntWalk.i64_in _ (by omega)).trans (by omega)
            have hk1' : (k1 : Int) < (nw : Int) := by omega
            have B1 := Lib.hid (And.intro hq (And.intro hbel (And.intro hu (And.intro hv (And.intro hin hk1e)))))
            clear hq hbel hu hv hin hk1e
            rename World => wo
            go_wp2_with (fail)
            go_loopg [21, 22] ne (fun q fv jv wr => ∃ j : Nat, q = ne - j ∧ j ≤ ne ∧ fv = .bool (fndE l u v j) ∧ jv = .int .i64 (j : Int) ∧ Below V7.heap.size V7 wr)
            case atStart => exact ⟨0, rfl, Nat.zero_le _, rfl, rfl, B1.out.2.1⟩
            case round =>
              obtain ⟨j, hq, hj, rfl, rfl, hbel⟩ := hrel
              have g1 := ((S.out.2.1).call hbel).cell' (i := 1) rfl
              have gl := ((S.out.2.1).call hbel).lt
              by_cases hjn : j < ne
              · have hj' : (j : Int) < (ne : Int) := by omega
                obtain ⟨e, he⟩ : ∃ e, l[j]? = some e := ⟨_, List.getElem?_eq_getElem (by rw [← O.out.2.2.2.1]; exact hjn)⟩
                have hec := (S.out.2.2.1).below hbel
                rw [O.out.2.2.2.1] at hec
                obtain ⟨ab, ao, rfl, hab, ca, cb⟩ := cells_edg hec he
                clear hec
                obtain ⟨ga, oa, hAa, hla, hcu⟩ := cell_nats ((S.out.2.2.2.2.2.1).below hbel) rfl B1.out.2.2.1
                obtain ⟨gb, ob, hAb, hlb, hcv⟩ := cell_nats ((S.out.2.2.2.2.2.1).below hbel) rfl B1.out.2.2.2.1
                cases hAa
                cases hAb
                have hst := fndE_step (u := u) (v := v) he
                obtain ⟨ef, hef⟩ : ∃ x, x = e.f := ⟨_, rfl⟩
                obtain ⟨et, het⟩ : ∃ x, x = e.t := ⟨_, rfl⟩
                rw [← hef] at ca hst
                rw [← het] at cb hst
                obtain ⟨fd, hfd⟩ : ∃ x, x = fndE l u v j := ⟨_, rfl⟩
                rw [← hfd] at hst ⊢
                have G := Lib.hid (And.intro hq (And.intro hbel hst))
                clear hq hbel hst hef het hfd he
                cases fd with
                | true =>
                  go_wp2_with (fail)
                  go_quiet (fail)
                  go_wp2_with (fail)
                  go_roundg (ne - (j + 1))
                  case measure => have := G.out.1; omega
                  case rel => exact ⟨j + 1, rfl, hjn, by rw [G.out.2.2, Bool.true_or], by simp, below_drewN G.out.2.1 _⟩
                | false =>
                  rw [Bool.false_or] at G
                  by_cases hx1 : ef = (u : Int)
                  · by_cases hx2 : et = (v : Int)
                    · subst hx1 hx2
                      go_wp2_with (fail)
                      go_quiet (fail)
                      go_wp2_with (fail)
                      go_roundg (ne - (j + 1))
                      case measure => have := G.out.1; omega
                      case rel => exact ⟨j + 1, rfl, hjn, by rw [G.out.2.2]; simp, by simp, below_drewN G.out.2.1 _⟩
                    · subst hx1
                      have hb2 : (et == (v : Int)) = false := by simpa using hx2
                      have hst2 := Lib.hid (G.out.2.2.trans (by rw [decide_eq_false hx2, Bool.and_false] : _ = false))
                      go_wp2_with (fail)
                      go_quiet (fail)
                      go_wp2_with (fail)
                      go_roundg (ne - (j + 1))
                      case measure => have := G.out.1; omega
                      case rel => exact ⟨j + 1, rfl, hjn, by rw [hst2.out], by simp, below_drewN G.out.2.1 _⟩
                  · have hb1 : (ef == (u : Int)) = false := by simpa using hx1
                    have hst2 := Lib.hid (G.out.2.2.trans (by rw [decide_eq_false hx1, Bool.false_and] : _ = false))
                    go_wp2_with (fail)
                    go_quiet (fail)
                    go_wp2_with (fail)
                    go_roundg (ne - (j + 1))
                    case measure => have := G.out.1; omega
                    case rel => exact ⟨j + 1, rfl, hjn, by rw [hst2.out], by simp, below_drewN G.out.2.1 _⟩
              · have ej : j = ne := by omega
                subst j
                have hfa : fndE l u v ne = true := by rw [O.out.2.2.2.1]; exact fndE_all B1.out.2.2.2.2.1
                rw [hfa]
                have G := Lib.hid hbel
                clear hbel hq hjn hfa
                go_wp2_with (fail)
                go_roundg (nw - (k + 1))
                case measure => have := B1.out.1; omega
                case rel => exact ⟨k + 1, rfl, by omega, hkn, by simp, G.out⟩
          · have ek : k = nw := by omega
            subst k
            have Z := Lib.hid (gr_call (S.out.1) hbel)
            clear hbel hq hkn
            go_wp2_with (fail)
            go_ret
            exact ⟨rfl, Z.out⟩
end Go.Proofs.Ytjgkiiohbceocaa
