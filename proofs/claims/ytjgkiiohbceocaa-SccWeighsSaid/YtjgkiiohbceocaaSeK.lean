/-
  The law SccOnce, walked: it returns true; no condition.
-/
import Derived.Test.YtjgkiiohbceocaaSeB
import Derived.Test.YtjgkiiohbceocaaSeD
import Derived.BigQuiet
namespace Go.Proofs.Ytjgkiiohbceocaa
open Go.RowKit
set_option linter.unusedVariables false
set_option linter.unusedSimpArgs false

/-- What the law asks of a graph, its components (ls), levels (LV) and loops (LB); p: the component of a node; lev: the level of a component. -/
structure OnceOk (m : Nat) (l : List Edg) (ls : List (List Nat)) (LV : List Nat) (LB : List Bool) (p lev : Nat → Nat) : Prop where
  np : ls.length ≤ 64
  part : ∀ (k : Nat) (cc : List Nat), ls[k]? = some cc → cc ≠ [] ∧ cc.length ≤ 64 ∧ cc.Nodup ∧ (∀ x ∈ cc, x < m) ∧ ∀ x, x < m → (p x = k ↔ x ∈ cc)
  plt : ∀ x, x < m → p x < ls.length
  sum : sumL ls = m
  lv : LV.length = m ∧ ∀ x, x < m → LV[x]? = some (lev (p x))
  lb : LB.length = ls.length
  edge : ∀ e ∈ l, ∃ a b : Nat, e = conE (a, b) ∧ a < m ∧ b < m ∧ p a ≤ p b ∧ (p a < p b → lev (p b) < lev (p a))
  order : eOrder (m : Int) l = if LB.any id = true then 16 else 0
  olen : LB.any id = false → (vOrder (m : Int) l).length = m
theorem once_ok {m : Nat} {l : List Edg} (h : (chkG (m : Int) l).1 = 0) : ∃ p lev, OnceOk m l (vParts (m : Int) l) (vLevels (m : Int) l) (vLoops (m : Int) l) p lev := by
  obtain ⟨m', e1, hm, hv, hw, ht⟩ := ok_nat h
  obtain rfl : m = m' := by omega
  have hR : rR (m : Int) l = rea m (relE l) := by unfold rR; rw [Int.toNat_natCast]
  have hP : pV (m : Int) l = partsV m (rea m (relE l)) := by unfold pV; rw [hR, Int.toNat_natCast]
  have h1 : vParts (m : Int) l = partsV m (rea m (relE l)) := by unfold vParts; rw [if_pos h, hP]
  have h2 : vLevels (m : Int) l = levelsV m l := by unfold vLevels; rw [if_pos h]
  have h3 : vLoops (m : Int) l = loopsV m l := by unfold vLoops; rw [if_pos h]
  have hpw := parts_what ht hm
  have hlp : (loopsV (m : Int) l).any id = lpT (rea m (relE l)) m := by
    unfold loopsV
    rw [hP, hR]
    exact loops_any ht
  have hord : eOrder (m : Int) l = if lpT (rea m (relE l)) m = true then 16 else 0 := by
    unfold eOrder
    rw [if_pos h, hR, Int.toNat_natCast]
  refine ⟨partI m (rea m (relE l)), levF (partsV m (rea m (relE l))).length (edgP (relE l) (partsV m (rea m (relE l)))), ?_⟩
  rw [h1, h2, h3]
  refine ⟨hpw.1, fun k cc hc => ?_, fun x hx => parts_lt ht hx, parts_sum ht, ⟨?_, fun x hx => ?_⟩, ?_, fun e he => ?_, ?_, fun hn => ?_⟩
  · have hcm := List.mem_of_getElem? hc
    refine ⟨(hpw.2 cc hcm).1, (hpw.2 cc hcm).2.1, ?_, fun x hx => ?_, fun x hx => partI_mem ht hc hx⟩
    · obtain ⟨r, _, rfl⟩ := partsV_at hc
      exact mem_nodup _ _ _
    · obtain ⟨r, _, rfl⟩ := partsV_at hc
      exact (mem_mem.1 hx).1
  · unfold levelsV; rw [List.length_map, List.length_range, Int.toNat_natCast]
  · unfold levelsV
    rw [Int.toNat_natCast, List.getElem?_map, List.getElem?_range hx, hP, hR]; rfl
  · unfold loopsV; rw [List.length_map, hP]
  · obtain ⟨o1, o2, o3, o4⟩ := hv e he
    refine ⟨e.f.toNat, e.t.toNat, ?_, by omega, by omega, ?_⟩
    · obtain ⟨a, b⟩ := e
      show Edg.mk a b = ⟨((a.toNat : Nat) : Int), ((b.toNat : Nat) : Int)⟩
      simp only at o1 o3
      rw [show ((a.toNat : Nat) : Int) = a by omega, show ((b.toNat : Nat) : Int) = b by omega]
    · have hE : relE l e.f.toNat e.t.toNat = true := by
        unfold relE
        rw [List.any_eq_true]
        exact ⟨e, he, by rw [Bool.and_eq_true, decide_eq_true_eq, decide_eq_true_eq]; omega⟩
      exact edge_down hw hE
  · rw [hlp]; exact hord
  · rw [hlp] at hn
    rw [hn, if_neg (by decide)] at hord
    unfold vOrder
    rw [if_pos hord, hP, flat_len, parts_sum ht]
theorem cond_ok {m : Nat} {l : List Edg} (h : (chkG (m : Int) l).1 = 0) : vCondN (m : Int) l = ((vParts (m : Int) l).length : Int) ∧ eOrder (((vParts (m : Int) l).length : Nat) : Int) (vCond (m : Int) l) = 0 ∧ (vCond (m : Int) l).length ≤ 1000000 := by
  have hlen := (ans_len (m : Int) l).2.2.2.2.2
  obtain ⟨m', e1, hm, hv, hw, ht⟩ := ok_nat h
  obtain rfl : m = m' := by omega
  have hR : rR (m : Int) l = rea m (relE l) := by unfold rR; rw [Int.toNat_natCast]
  have hP : pV (m : Int) l = partsV m (rea m (relE l)) := by unfold pV; rw [hR, Int.toNat_natCast]
  have h1 : vParts (m : Int) l = partsV m (rea m (relE l)) := by unfold vParts; rw [if_pos h, hP]
  have h2 : vCond (m : Int) l = (condL (partsV m (rea m (relE l))).length (edgP (relE l) (partsV m (rea m (relE l))))).map conE := by unfold vCond condV; rw [if_pos h, hP]
  refine ⟨by unfold vCondN; rw [if_pos h, h1, hP], ?_, hlen⟩
  rw [h1, h2]
  exact cond_order hm hw
theorem sum_app (a b : List (List Nat)) : sumL (a ++ b) = sumL a + sumL b := by unfold sumL; simp
theorem sum_le {ls : List (List Nat)} (k : Nat) : sumL (ls.take k) ≤ sumL ls := by
  have : sumL ls = sumL (ls.take k) + sumL (ls.drop k) := by rw [← sum_app, List.take_append_drop]
  omega
/-- What is in the list 'at' so far. -/
def itC (m : Nat) (f : Nat → Int) : Array Value := vecC m fun x => .int .i64 (f x)
theorem itC_set {m : Nat} {f g : Nat → Int} {k : Nat} {b : Int} (hk : k < m) (hb : g k = b) (h : ∀ j, j < m → j ≠ k → g j = f j) : (itC m f).setIfInBounds k (.int .i64 b) = itC m g :=
  vecC_set hk (by rw [hb]) fun j hj hn => by rw [h j hj hn]
theorem itC_congr {m : Nat} {f g : Nat → Int} (h : ∀ j, j < m → g j = f j) : itC m f = itC m g := vecC_congr fun j hj => by rw [h j hj]
def nvF (k x : Nat) : Int := if x < k then -1 else 0
def atF (p : Nat → Nat) (cc : List Nat) (k j x : Nat) : Int := if p x < k ∨ (p x = k ∧ x ∈ cc.take j) then (p x : Int) else -1
theorem atF_new {p : Nat → Nat} {cc : List Nat} {k j x : Nat} (hp : p x = k) (hn : x ∉ cc.take j) : atF p cc k j x = -1 := by
  unfold atF; rw [if_neg]; rintro (h | ⟨_, h⟩)
  · omega
  · exact hn h
theorem atF_set {p : Nat → Nat} {cc : List Nat} {k j x : Nat} (hx : cc[j]? = some x) (hp : p x = k) : atF p cc k (j + 1) x = (k : Int) := by
  unfold atF; rw [if_pos (.inr ⟨hp, by rw [List.take_add_one, hx]; simp⟩), hp]
theorem atF_far {p : Nat → Nat} {cc : List Nat} {k j x y : Nat} (hx : cc[j]? = some x) (hy : y ≠ x) : atF p cc k (j + 1) y = atF p cc k j y := by
  unfold atF
  rw [List.take_add_one, hx]
  have e : (y ∈ cc.take j ++ (some x).toList) ↔ y ∈ cc.take j := by simp [hy]
  simp only [e]
theorem atF_start (p : Nat → Nat) (c d : List Nat) (k x : Nat) : atF p c k 0 x = atF p d k 0 x := by unfold atF; simp
theorem atF_row {p : Nat → Nat} {c d : List Nat} {k x : Nat} (h : p x = k → x ∈ c) : atF p c k c.length x = atF p d (k + 1) 0 x := by
  unfold atF
  rw [List.take_length, List.take_zero]
  by_cases h1 : p x < k
  · rw [if_pos (.inl h1), if_pos (.inl (by omega))]
  · by_cases h2 : p x = k
    · rw [if_pos (.inr ⟨h2, h h2⟩), if_pos (.inl (by omega))]
    · rw [if_neg (by rintro (h3 | h3) <;> omega), if_neg (by rintro (h3 | ⟨h3, h4⟩) <;> first | omega | cases h4)]
theorem atF_end {p : Nat → Nat} {c : List Nat} {k x : Nat} (h : p x < k) : atF p c k 0 x = (p x : Int) := by
  unfold atF; rw [if_pos (.inl h)]
theorem sum_take {ls : List (List Nat)} {k : Nat} {c : List Nat} (h : ls[k]? = some c) : sumL (ls.take (k + 1)) = sumL (ls.take k) + c.length := by
  rw [List.take_add_one, h]
  unfold sumL
  simp
theorem any_take {LB : List Bool} {k : Nat} {b : Bool} (h : LB[k]? = some b) : (LB.take (k + 1)).any id = ((LB.take k).any id || b) := by
  rw [List.take_add_one, h, List.any_append]
  simp
theorem cell_nats {W : World} {v : Value} {l : List Nat} {A : Option Addr} {n c : Nat} (h : NatsAt W v l) (hv : v = .slice A n c) {j x : Nat} (hx : l[j]? = some x) : ∃ g o, A = some ⟨g, o, none⟩ ∧ g < W.heap.size ∧ W.cell? ⟨g, o + j, none⟩ = some (.int .i64 (x : Int)) := by
  obtain ⟨A', c', h1, h2⟩ := h.ex
  obtain ⟨g, o, h3, h4, h5⟩ := h2 (fun e => by rw [e] at hx; cases hx)
  rw [hv] at h1
  injection h1 with e1 e2 e3
  exact ⟨g, o, by rw [e1, h3], h4, h5 j x hx⟩
theorem cell_vals {W : World} {v : Value} {l : List Value} {A : Option Addr} {n c : Nat} (h : CellsAt W v l) (hv : v = .slice A n c) {j : Nat} {x : Value} (hx : l[j]? = some x) : ∃ g o, A = some ⟨g, o, none⟩ ∧ g < W.heap.size ∧ W.cell? ⟨g, o + j, none⟩ = some x := by
  obtain ⟨A', c', h1, h2⟩ := h.ex
  obtain ⟨g, o, h3, h4, h5⟩ := h2 (fun e => by rw [e] at hx; cases hx)
  rw [hv] at h1
  injection h1 with e1 e2 e3
  exact ⟨g, o, by rw [e1, h3], h4, h5 j x hx⟩
theorem cell_ll {W : World} {v : Value} {ls : List (List Nat)} {A : Option Addr} {n c : Nat} (h : LLAt W v ls) (hv : v = .slice A n c) {j : Nat} {l : List Nat} (hl : ls[j]? = some l) : ∃ g u, A = some ⟨g, 0, none⟩ ∧ g < W.heap.size ∧ W.cell? ⟨g, j, none⟩ = some u ∧ NatsAt W u l := by
  obtain ⟨A', c', h1, h2⟩ := h.ex
  obtain ⟨g, h3, h4, h5⟩ := h2 (fun e => by rw [e] at hl; cases hl)
  rw [hv] at h1
  injection h1 with e1 e2 e3
  obtain ⟨u, h6, h7⟩ := h5 j l hl
  exact ⟨g, u, by rw [e1, h3], h4, h6, h7⟩
theorem boolL_at {l : List Bool} {k : Nat} {b : Bool} (h : l[k]? = some b) : (boolL l)[k]? = some (.bool b) := by unfold boolL; rw [List.getElem?_map, h]; rfl

set_option maxRecDepth 100000 in
set_option maxHeartbeats 16000000 in
theorem law_once (n : Int) (nl : List Int) (A : Option Addr) (c : Nat) (w : World) (hn : -9223372036854775808 ≤ n ∧ n ≤ 9223372036854775807) (hA : Cells w A 1 nl.length (intsAt nl)) (hb : ∀ x ∈ nl, -9223372036854775808 ≤ x ∧ x ≤ 9223372036854775807) :
    Calls Try.prog 6 #[.int .i64 n, .slice A nl.length c] w fun e w' => e = .returned (.bool true) ∧ Below w.heap.size w w' := by
  have hmd := fun W hW => made_law n nl hn hb A c W hW
  obtain ⟨ln, hln⟩ : ∃ ln, ln = nl.length := ⟨_, rfl⟩
  have H := Lib.hid (And.intro hmd hA)
  rw [← hln] at H ⊢
  clear hmd hA hb hn hln
  go_enter Try.func6, Try.ntmps6
  go_wp2_with (fail)
  refine (law_known _).mono ?_
  rintro e W1 ⟨rfl, h1⟩
  have hA1 := H.out.2.below h1
  have D := Lib.hid (And.intro h1 hA1)
  clear h1 hA1
  go_wp2_with (fail)
  refine (H.out.1 _ (by have := D.out.2; exact this)).mono ?_
  rintro e W2 ⟨m, l, B, d, rfl, hm, hlen, hck, hB, h2⟩
  have ha := gr_alloc (Below.refl W2.heap.size W2) (.cells #[.int .i64 (m : Int), .slice B l.length d] 24)
  have kG := Blk.new W2 24 #[.int .i64 (m : Int), .slice B l.length d]
  have hll : l.length ≤ 1000000 := by omega
  have hB3 := hB.below ha
  obtain ⟨p, lev, hok⟩ := once_ok hck
  obtain ⟨hCN, hCo, hCl⟩ := cond_ok hck
  obtain ⟨ls, hls⟩ : ∃ x, x = vParts (m : Int) l := ⟨_, rfl⟩
  obtain ⟨LV, hLV⟩ : ∃ x, x = vLevels (m : Int) l := ⟨_, rfl⟩
  obtain ⟨LB, hLB⟩ : ∃ x, x = vLoops (m : Int) l := ⟨_, rfl⟩
  obtain ⟨L, hL⟩ : ∃ x, x = vCond (m : Int) l := ⟨_, rfl⟩
  rw [← hls, ← hLV, ← hLB] at hok
  rw [← hls] at hCN hCo
  rw [← hL] at hCo hCl
  obtain ⟨np, hnp⟩ : ∃ x, x = ls.length := ⟨_, rfl⟩
  rw [← hnp] at hCN hCo
  have hnp64 : np ≤ 64 := by rw [hnp]; exact hok.np
  have hbl : (boolL LB).length = np := by rw [hnp, ← hok.lb]; simp [boolL]
  have hmk := fun W => mk_vec (t := 25) (z := .int .i64 0) Try.underlying25 infoInt rfl (by decide) m (by omega) W
  have O := Lib.hid (And.intro hok (And.intro hck (And.intro hls (And.intro hLV (And.intro hLB (And.intro hL (And.intro hnp (And.intro hCN (And.intro hCo (And.intro hCl hbl))))))))))
  clear hls hLV hLB hL hnp hCN hCo hCl hbl
  have S := Lib.hid (And.intro (gr_call D.out.1 (gr_call h2 ha)) (And.intro (kG) (hB3)))
  clear h2 ha kG hB hB3 D hok hck hlen
  have g0 := (S.out.2.1).cell' (i := 0) rfl
  have g1 := (S.out.2.1).cell' (i := 1) rfl
  have gl := (S.out.2.1).lt
  have hp := parts_code (m : Int) l hll B d (W2.alloc (.cells #[.int .i64 (m : Int), .slice B l.length d] 24)) (S.out.2.2)
  rw [O.out.2.1, ← O.out.2.2.1] at hp
  go_wp2_with (fail)
  refine hp.mono ?_
  rintro e V1 ⟨v1, rfl, x, h⟩
  clear hp g0 g1 gl
  obtain ⟨Av1, cv1, rfl, _⟩ := x.ex
  rw [← O.out.2.2.2.2.2.2.1] at x ⊢
  have S2 := Lib.hid (And.intro (gr_call (S.out.1) h) (And.intro ((S.out.2.1).call h) (And.intro ((S.out.2.2).below h) (x))))
  clear S h x
  have S := Lib.hid S2.out
  clear S2
  have g0 := (S.out.2.1).cell' (i := 0) rfl
  have g1 := (S.out.2.1).cell' (i := 1) rfl
  have gl := (S.out.2.1).lt
  have hp := levels_code (m : Int) l hll B d _ (S.out.2.2.1)
  rw [O.out.2.1, ← O.out.2.2.2.1] at hp
  go_wp2_with (fail)
  refine hp.mono ?_
  rintro e V2 ⟨v2, rfl, x, h⟩
  clear hp g0 g1 gl
  obtain ⟨Av2, cv2, rfl, _⟩ := x.ex
  rw [O.out.1.lv.1] at x ⊢
  have S2 := Lib.hid (And.intro (gr_call (S.out.1) h) (And.intro ((S.out.2.1).call h) (And.intro ((S.out.2.2.1).below h) (And.intro ((S.out.2.2.2).below h) (x)))))
  clear S h x
  have S := Lib.hid S2.out
  clear S2
  have g0 := (S.out.2.1).cell' (i := 0) rfl
  have g1 := (S.out.2.1).cell' (i := 1) rfl
  have gl := (S.out.2.1).lt
  have hp := loops_code (m : Int) l hll B d _ (S.out.2.2.1)
  rw [O.out.2.1, ← O.out.2.2.2.2.1] at hp
  go_wp2_with (fail)
  refine hp.mono ?_
  rintro e V3 ⟨v3, rfl, x, h⟩
  clear hp g0 g1 gl
  obtain ⟨Av3, cv3, rfl, _⟩ := x.ex
  rw [O.out.2.2.2.2.2.2.2.2.2.2] at x ⊢
  have S2 := Lib.hid (And.intro (gr_call (S.out.1) h) (And.intro ((S.out.2.1).call h) (And.intro ((S.out.2.2.1).below h) (And.intro ((S.out.2.2.2.1).below h) (And.intro ((S.out.2.2.2.2).below h) (x))))))
  clear S h x
  have S := Lib.hid S2.out
  clear S2
  have g0 := (S.out.2.1).cell' (i := 0) rfl
  have g1 := (S.out.2.1).cell' (i := 1) rfl
  have gl := (S.out.2.1).lt
  have hp := condense_code (m : Int) l hll B d _ (S.out.2.2.1)
  rw [O.out.2.1, O.out.2.2.2.2.2.2.2.1, ← O.out.2.2.2.2.2.1] at hp
  go_wp2_with (fail)
  refine hp.mono ?_
  rintro e V4 ⟨v4, rfl, ⟨Ac, cc, rfl, x⟩, h0⟩
  have ha := gr_alloc (Below.refl V4.heap.size V4) (.cells #[.int .i64 (np : Int), .slice Ac L.length cc] 24)
  have kb := Blk.new V4 24 #[.int .i64 (np : Int), .slice Ac L.length cc]
  have x2 := x.below ha
  have h := gr_call h0 ha
  clear hp g0 g1 gl
  have S2 := Lib.hid (And.intro (gr_call (S.out.1) h) (And.intro ((S.out.2.1).call h) (And.intro ((S.out.2.2.1).below h) (And.intro ((S.out.2.2.2.1).below h) (And.intro ((S.out.2.2.2.2.1).below h) (And.intro ((S.out.2.2.2.2.2).below h) (And.intro (kb) (x2))))))))
  clear S h ha h0 x x2 kb
  have S := Lib.hid S2.out
  clear S2
  have g0 := (S.out.2.1).cell' (i := 0) rfl
  have g1 := (S.out.2.1).cell' (i := 1) rfl
  have gl := (S.out.2.1).lt
  have k0 := (S.out.2.2.2.2.2.2.1).cell' (i := 0) rfl
  have kl := (S.out.2.2.2.2.2.2.1).lt
  have hm1 := hmk (V4.alloc (.cells #[.int .i64 (np : Int), .slice Ac L.length cc] 24))
  go_wp2_with (fail)
  obtain ⟨X, hX⟩ : ∃ X, V4.alloc (.cells #[.int .i64 (np : Int), .slice Ac L.length cc] 24) = X := ⟨_, rfl⟩
  have hsz : X.heap.size = V4.heap.size + 1 := by rw [← hX]; simp
  rw [hX] at S ⊢
  rw [← hsz]
  clear hX hm1 g0 g1 gl k0 kl hsz
  have bA := gr_alloc (Below.refl X.heap.size X) (.cells (vecC m fun _ => .int .i64 0) 3)
  have kA := Blk.new X 3 (vecC m fun _ => .int .i64 0)
  have P := Lib.hid (And.intro bA kA)
  clear bA kA
  go_loopg [16] m (fun q kv wr => ∃ k : Nat, q = m - k ∧ k ≤ m ∧ kv = .int .i64 (k : Int) ∧ Below X.heap.size X wr ∧ Blk wr X.heap.size 3 (itC m (nvF k)))
  case atStart => exact ⟨0, rfl, Nat.zero_le _, rfl, P.out.1, P.out.2⟩
  case round =>
    obtain ⟨k, hq, hk, rfl, hbel, hat⟩ := hrel
    have g0 := ((S.out.2.1).call hbel).cell' (i := 0) rfl
    have gl := ((S.out.2.1).call hbel).lt
    by_cases hkm : k < m
    · have hk' : (k : Int) < (m : Int) := by omega
      have ca := hat.cell' (vecC_at (fun x => .int .i64 (nvF k x)) hkm)
      have fa := hat.frozen k
      have la := hat.lt
      have F := Lib.hid (And.intro hq (And.intro hbel hat))
      clear hq hbel hat
      go_wp2_with (fail)
      go_roundg (m - (k + 1))
      case measure => have := F.out.1; omega
      case rel =>
        have hb := gr_set F.out.2.1 (p := ⟨X.heap.size, k, none⟩) (Nat.le_refl _) (.int .i64 (-1))
        refine ⟨k + 1, rfl, hkm, by simp, ⟨hb.os, hb.tape, hb.output, hb.size, hb.block⟩, ?_⟩
        rw [← itC_set (f := nvF k) (g := nvF (k + 1)) (k := k) (b := -1) hkm (by unfold nvF; rw [if_pos (Nat.lt_succ_self k)]) (fun j _ hj => by
          unfold nvF
          by_cases h : j < k
          · rw [if_pos h, if_pos (by omega)]
          · rw [if_neg h, if_neg (by omega)])]
        exact F.out.2.2.set_ k _
    · have ek : k = m := by omega
      subst k
      have hat2 : Blk wr X.heap.size 3 (itC m (atF p [] 0 0)) := by
        rw [itC_congr (f := atF p [] 0 0) (g := nvF m) (fun x hx => by unfold nvF atF; rw [if_pos hx, if_neg (by simp)])]
        exact hat
      have F := Lib.hid (And.intro hbel hat2)
      clear hbel hat hat2 hq hkm
      go_wp2_with (fail)
      go_loopg [17, 18, 19] np (fun q mv av kv wr => ∃ k : Nat, q = np - k ∧ k ≤ np ∧ mv = .int .i64 ((sumL (ls.take k) : Nat) : Int) ∧ av = .bool ((LB.take k).any id) ∧ kv = .int .i64 (k : Int) ∧ Below X.heap.size X wr ∧ Blk wr X.heap.size 3 (itC m (atF p [] k 0)))
      case atStart => exact ⟨0, rfl, Nat.zero_le _, rfl, rfl, rfl, F.out.1, F.out.2⟩
      case round =>
        obtain ⟨k, hq, hk, rfl, rfl, rfl, hbel, hat⟩ := hrel
        have g0 := ((S.out.2.1).call hbel).cell' (i := 0) rfl
        have g1 := ((S.out.2.1).call hbel).cell' (i := 1) rfl
        have gl := ((S.out.2.1).call hbel).lt
        by_cases hkn : k < np
        · have hk' : (k : Int) < (np : Int) := by omega
          obtain ⟨cc', hcc⟩ : ∃ c, ls[k]? = some c := ⟨_, List.getElem?_eq_getElem (by rw [← O.out.2.2.2.2.2.2.1]; exact hkn)⟩
          obtain ⟨b, hb⟩ : ∃ b, LB[k]? = some b := ⟨_, List.getElem?_eq_getElem (by rw [O.out.1.lb, ← O.out.2.2.2.2.2.2.1]; exact hkn)⟩
          obtain ⟨hcn, hc64, hcd, hcm, hcp⟩ := O.out.1.part k cc' hcc
          obtain ⟨nu, hnu⟩ : ∃ x, x = cc'.length := ⟨_, rfl⟩
          rw [← hnu] at hc64
          have hany := any_take hb
          have hsum := sum_take hcc
          have hsl := sum_le (ls := ls) (k + 1)
          rw [hsum, O.out.1.sum, ← hnu] at hsl
          obtain ⟨gb, ob, hAb, hlb, hcb⟩ := cell_vals ((S.out.2.2.2.2.2.1).below hbel) rfl (boolL_at hb)
          subst hAb
          rw [← hnu] at hsum
          obtain ⟨sm, hsm⟩ : ∃ x, x = sumL (ls.take k) := ⟨_, rfl⟩
          obtain ⟨an, han⟩ : ∃ x, x = (LB.take k).any id := ⟨_, rfl⟩
          rw [← hsm] at hsum hsl ⊢
          rw [← han] at hany ⊢
          have B1 := Lib.hid (And.intro hq (And.intro hbel (And.intro hat (And.intro hcc (And.intro hcn (And.intro hcd (And.intro hcm (And.intro hcp (And.intro hnu (And.intro hany hsum))))))))))
          clear hq hbel hat hcc hb hcn hcd hcm hcp hnu hany hsum hsm han
          rename World => wo
          cases an
          all_goals (
            go_wp2_with (fail)
            clear hcb hlb g0 g1 gl
            go_loopg [17, 20] nu (fun q mv jv wr => ∃ j : Nat, q = nu - j ∧ j ≤ nu ∧ mv = .int .i64 ((sm + j : Nat) : Int) ∧ jv = .int .i64 (j : Int) ∧ Below X.heap.size X wr ∧ Blk wr X.heap.size 3 (itC m (atF p cc' k j)))
            case atStart =>
              refine ⟨0, rfl, Nat.zero_le _, by simp, rfl, B1.out.2.1, ?_⟩
              rw [itC_congr (f := atF p cc' k 0) (g := atF p [] k 0) (fun x _ => atF_start _ _ _ _ _)]
              exact B1.out.2.2.1
            case round =>
              obtain ⟨j, hq, hj, rfl, rfl, hbel, hat⟩ := hrel
              have g0 := ((S.out.2.1).call hbel).cell' (i := 0) rfl
              have gl := ((S.out.2.1).call hbel).lt
              obtain ⟨g1, u1, hA1, hl1, hc1, hu1⟩ := cell_ll ((S.out.2.2.2.1).below hbel) rfl B1.out.2.2.2.1
              obtain ⟨ua, uc, hue, _⟩ := hu1.ex
              rw [← B1.out.2.2.2.2.2.2.2.2.1] at hue
              subst hA1 hue
              by_cases hjn : j < nu
              · have hj' : (j : Int) < (nu : Int) := by omega
                obtain ⟨x, hx⟩ : ∃ x, cc'[j]? = some x := ⟨_, List.getElem?_eq_getElem (by rw [← B1.out.2.2.2.2.2.2.2.2.1]; exact hjn)⟩
                obtain ⟨x0, hx0⟩ : ∃ x, cc'[0]? = some x := ⟨_, List.getElem?_eq_getElem (by rw [← B1.out.2.2.2.2.2.2.2.2.1]; omega)⟩
                have hxm := B1.out.2.2.2.2.2.2.1 x (List.mem_of_getElem? hx)
                have hxm0 := B1.out.2.2.2.2.2.2.1 x0 (List.mem_of_getElem? hx0)
                have hpx := (B1.out.2.2.2.2.2.2.2.1 x hxm).2 (List.mem_of_getElem? hx)
                have hpx0 := (B1.out.2.2.2.2.2.2.2.1 x0 hxm0).2 (List.mem_of_getElem? hx0)
                obtain ⟨gx, ox, hAx, hlx, hcx⟩ := cell_nats hu1 rfl hx
                obtain ⟨gx', ox', hAx', hlx', hcx0⟩ := cell_nats hu1 rfl hx0
                rw [hAx] at hAx'
                cases hAx'
                subst hAx
                rw [Nat.add_zero] at hcx0
                have hl2 := O.out.1.lv.2 x hxm
                have hl20 := O.out.1.lv.2 x0 hxm0
                rw [hpx] at hl2
                rw [hpx0] at hl20
                obtain ⟨g2, o2, hA2, hlt2, hc2⟩ := cell_nats ((S.out.2.2.2.2.1).below hbel) rfl hl2
                obtain ⟨g2', o2', hA2', hlt2', hc20⟩ := cell_nats ((S.out.2.2.2.2.1).below hbel) rfl hl20
                rw [hA2] at hA2'
                cases hA2'
                subst hA2
                have cat := hat.cell' (vecC_at (fun x => .int .i64 (atF p cc' k j x)) hxm)
                rw [atF_new hpx (take_not B1.out.2.2.2.2.2.1 hx)] at cat
                have fat := hat.frozen x
                have lat := hat.lt
                have e1 := atF_set (p := p) hx hpx
                have e2 := fun y hy => atF_far (p := p) (k := k) (y := y) hx hy
                obtain ⟨lvk, hlvk⟩ : ∃ y, y = lev k := ⟨_, rfl⟩
                rw [← hlvk] at hc2 hc20
                have hxm' : (x : Int) < (m : Int) := by omega
                have hxm0' : (x0 : Int) < (m : Int) := by omega
                have hx0' : ¬ ((x : Int) < 0) := by omega
                have hxg' : ¬ ((m : Int) ≤ (x : Int)) := by omega
                have hxd1 : decide ((x : Int) < 0) = false := decide_eq_false hx0'
                have hxd2 : decide ((m : Int) ≤ (x : Int)) = false := decide_eq_false hxg'
                have hxd3 : decide (m ≤ x) = false := decide_eq_false (by omega)
                have hxd4 : ¬ m ≤ x := by omega
                have hnu0 : (0 : Int) < (nu : Int) := by omega
                have hnu1 : 0 < nu := by omega
                have G := Lib.hid (And.intro hq (And.intro hbel (And.intro hat (And.intro e1 e2))))
                clear hq hbel hat e1 e2 hx hx0 hpx hpx0 hl2 hl20 hlvk hu1
                go_wp2_with (fail)
                go_quiet (fail)
                go_wp2_with (fail)
                go_roundg (nu - (j + 1))
                case measure => have := G.out.1; omega
                case rel =>
                  have hbb := gr_set G.out.2.1 (p := ⟨X.heap.size, x, none⟩) (Nat.le_refl _) (.int .i64 (k : Int))
                  refine ⟨j + 1, rfl, hjn, by simp; omega, by simp, ⟨hbb.os, hbb.tape, hbb.output, hbb.size, hbb.block⟩, ?_⟩
                  rw [← itC_set (f := atF p cc' k j) (g := atF p cc' k (j + 1)) hxm G.out.2.2.2.1 (fun y _ hy => G.out.2.2.2.2 y hy)]
                  exact G.out.2.2.1.set_ x _
              · have ej : j = nu := by omega
                subst j
                have G := Lib.hid (And.intro hbel (And.intro hat hq))
                clear hbel hat hq hu1
                go_wp2_with (fail)
                go_roundg (np - (k + 1))
                case measure => have := B1.out.1; omega
                case rel =>
                  refine ⟨k + 1, rfl, hkn, by rw [B1.out.2.2.2.2.2.2.2.2.2.2], by rw [B1.out.2.2.2.2.2.2.2.2.2.1]; simp, by simp, G.out.1, ?_⟩
                  have h9 := G.out.2.1
                  rw [B1.out.2.2.2.2.2.2.2.2.1, itC_congr (f := atF p cc' k cc'.length) (g := atF p [] (k + 1) 0) (fun x hx => (atF_row (fun h => (B1.out.2.2.2.2.2.2.2.1 x hx).1 h)).symm)] at h9
                  exact h9)
        · have ek : k = np := by omega
          subst k
          rw [O.out.2.2.2.2.2.2.1, List.take_length, ← O.out.2.2.2.2.2.2.1, O.out.1.sum]
          have hat2 : Blk wr X.heap.size 3 (itC m fun x => (p x : Int)) := by
            rw [itC_congr (f := fun x => (p x : Int)) (g := atF p [] np 0) (fun x hx => (atF_end (by rw [O.out.2.2.2.2.2.2.1]; exact O.out.1.plt x hx)))]
            exact hat
          have hLt : (LB.take np).any id = LB.any id := by rw [O.out.2.2.2.2.2.2.1, ← O.out.1.lb, List.take_length]
          rw [hLt]
          obtain ⟨an, han⟩ : ∃ x, x = LB.any id := ⟨_, rfl⟩
          rw [← han]
          obtain ⟨ne, hne⟩ : ∃ x, x = l.length := ⟨_, rfl⟩
          rw [← hne] at g1
          have F2 := Lib.hid (And.intro hbel (And.intro hat2 (And.intro han hne)))
          clear hbel hat hat2 hq hkn hLt han hne
          go_wp2_with (fail)
          clear g0 g1 gl
          go_loopg [22] ne (fun q iv wr => ∃ i : Nat, q = ne - i ∧ i ≤ ne ∧ iv = .int .i64 (i : Int) ∧ Below X.heap.size X wr ∧ Blk wr X.heap.size 3 (itC m fun x => (p x : Int)))
          case atStart => exact ⟨0, rfl, Nat.zero_le _, rfl, F2.out.1, F2.out.2.1⟩
          case round =>
            obtain ⟨i, hq, hi, rfl, hbel, hat⟩ := hrel
            have g0 := ((S.out.2.1).call hbel).cell' (i := 0) rfl
            have g1 := ((S.out.2.1).call hbel).cell' (i := 1) rfl
            have gl := ((S.out.2.1).call hbel).lt
            have hne' : ne ≤ 1000000 := by have := F2.out.2.2.2; omega
            by_cases hin : i < ne
            · have hi' : (i : Int) < (ne : Int) := by omega
              obtain ⟨e, he⟩ : ∃ e, l[i]? = some e := ⟨_, List.getElem?_eq_getElem (by rw [← F2.out.2.2.2]; exact hin)⟩
              obtain ⟨a, b, rfl, ham, hbm, hpab, hlab⟩ := O.out.1.edge e (List.mem_of_getElem? he)
              obtain ⟨ab, ao, rfl, hab, ca, cb⟩ := cells_edg ((S.out.2.2.1).below hbel) (k := i) (p := conE (a, b)) he
              replace ca : wr.cell? ⟨ab, ao + i * 2, none⟩ = some (.int .i64 (a : Int)) := ca
              replace cb : wr.cell? ⟨ab, ao + i * 2 + 1, none⟩ = some (.int .i64 (b : Int)) := cb
              rw [← F2.out.2.2.2] at g1
              have cta := hat.cell' (vecC_at (fun x => .int .i64 ((p x : Nat) : Int)) ham)
              have ctb := hat.cell' (vecC_at (fun x => .int .i64 ((p x : Nat) : Int)) hbm)
              have lat := hat.lt
              have hla := O.out.1.lv.2 a ham
              have hlb := O.out.1.lv.2 b hbm
              obtain ⟨g2, o2, hA2, hlt2, hc2⟩ := cell_nats ((S.out.2.2.2.2.1).below hbel) rfl hla
              obtain ⟨g2', o2', hA2', hlt2', hc3⟩ := cell_nats ((S.out.2.2.2.2.1).below hbel) rfl hlb
              rw [hA2] at hA2'
              cases hA2'
              subst hA2
              obtain ⟨pa, hpa⟩ : ∃ x, x = p a := ⟨_, rfl⟩
              obtain ⟨pb, hpb⟩ : ∃ x, x = p b := ⟨_, rfl⟩
              rw [← hpa] at cta hpab hlab hc2
              rw [← hpb] at ctb hpab hlab hc3
              obtain ⟨la, hlae⟩ : ∃ x, x = lev pa := ⟨_, rfl⟩
              obtain ⟨lb, hlbe⟩ : ∃ x, x = lev pb := ⟨_, rfl⟩
              rw [← hlae, ← hlbe] at hlab
              rw [← hlae] at hc2
              rw [← hlbe] at hc3
              have ham' : (a : Int) < (m : Int) := by omega
              have hbm' : (b : Int) < (m : Int) := by omega
              have hn1 : ¬ pb < pa := by omega
              have hd1 : decide (pb < pa) = false := decide_eq_false hn1
              have hn1' : ¬ (pb : Int) < (pa : Int) := by omega
              have hd1' : decide ((pb : Int) < (pa : Int)) = false := decide_eq_false hn1'
              have G := Lib.hid (And.intro hq (And.intro hbel hat))
              clear hq hbel hat he hla hlb hpa hpb hlae hlbe
              by_cases hlt : pa < pb
              · have hll2 := hlab hlt
                have hd2 : decide (pa < pb) = true := decide_eq_true hlt
                have hlt' : (pa : Int) < (pb : Int) := by omega
                have hd2' : decide ((pa : Int) < (pb : Int)) = true := decide_eq_true hlt'
                have hn3 : ¬ la ≤ lb := by omega
                have hd3 : decide (la ≤ lb) = false := decide_eq_false hn3
                have hn3' : ¬ (la : Int) ≤ (lb : Int) := by omega
                have hd3' : decide ((la : Int) ≤ (lb : Int)) = false := decide_eq_false hn3'
                clear hlab hll2 hpab
                go_wp2_with (fail)
                go_quiet (fail)
                go_wp2_with (fail)
                go_quiet (fail)
                go_wp2_with (fail)
                go_roundg (ne - (i + 1))
                case measure => have := G.out.1; omega
                case rel => exact ⟨i + 1, rfl, hin, by simp, below_drewN G.out.2.1 _, G.out.2.2.drewN _⟩
              · have hd2 : decide (pa < pb) = false := decide_eq_false hlt
                have hlt' : ¬ (pa : Int) < (pb : Int) := by omega
                have hd2' : decide ((pa : Int) < (pb : Int)) = false := decide_eq_false hlt'
                clear hlab hpab
                go_wp2_with (fail)
                go_quiet (fail)
                go_wp2_with (fail)
                go_quiet (fail)
                go_wp2_with (fail)
                go_roundg (ne - (i + 1))
                case measure => have := G.out.1; omega
                case rel => exact ⟨i + 1, rfl, hin, by simp, below_drewN G.out.2.1 _, G.out.2.2.drewN _⟩
            · have ei : i = ne := by omega
              subst i
              cases an with
              | true =>
                have ho1 := order_code (m : Int) l hll B d wr ((S.out.2.2.1).below hbel)
                have hor := O.out.1.order
                rw [← F2.out.2.2.1] at hor
                rw [hor, ← F2.out.2.2.2] at ho1
                rw [if_pos rfl] at ho1
                rw [← F2.out.2.2.2] at g1
                have ho2 := fun W hW => order_code (np : Int) L O.out.2.2.2.2.2.2.2.2.2.1 Ac cc W hW
                rw [O.out.2.2.2.2.2.2.2.2.1] at ho2
                have R := Lib.hid (And.intro ho1 ho2)
                have hbelX := Lib.hid hbel
                clear ho1 ho2 hor hat hq hin hbel
                go_wp2_with (fail)
                refine R.out.1.mono ?_
                rintro e W5 ⟨vo, rfl, hvo, h5⟩
                obtain ⟨Ao, co, rfl, _⟩ := hvo.ex
                have hb5 := gr_call hbelX.out h5
                have k0 := ((S.out.2.2.2.2.2.2.1).call hb5).cell' (i := 0) rfl
                have k1 := ((S.out.2.2.2.2.2.2.1).call hb5).cell' (i := 1) rfl
                have kl := ((S.out.2.2.2.2.2.2.1).call hb5).lt
                have T := Lib.hid (And.intro hb5 ((S.out.2.2.2.2.2.2.2).below hb5))
                clear h5 hvo hb5 g0 g1 gl
                go_wp2_with (fail)
                refine (R.out.2 _ T.out.2).mono ?_
                rintro e W6 ⟨vo2, rfl, hvo2, h6⟩
                have hb6 := gr_call T.out.1 h6
                have g0 := ((S.out.2.1).call hb6).cell' (i := 0) rfl
                have gl := ((S.out.2.1).call hb6).lt
                have Z := Lib.hid (gr_call (S.out.1) hb6)
                clear h6 hvo2 hb6 k0 k1 kl
                go_wp2_with (fail)
                go_ret
                exact ⟨rfl, Z.out⟩
              | false =>
                have ho1 := order_code (m : Int) l hll B d wr ((S.out.2.2.1).below hbel)
                have hor := O.out.1.order
                have hol := O.out.1.olen
                rw [← F2.out.2.2.1] at hor hol
                have hol := hol rfl
                rw [hor, ← F2.out.2.2.2] at ho1
                rw [if_neg (by decide)] at ho1
                rw [← F2.out.2.2.2] at g1
                have ho2 := fun W hW => order_code (np : Int) L O.out.2.2.2.2.2.2.2.2.2.1 Ac cc W hW
                rw [O.out.2.2.2.2.2.2.2.2.1] at ho2
                have R := Lib.hid (And.intro ho1 (And.intro ho2 hol))
                have hbelX := Lib.hid hbel
                clear ho1 ho2 hor hol hat hq hin hbel
                go_wp2_with (fail)
                refine R.out.1.mono ?_
                rintro e W5 ⟨vo, rfl, hvo, h5⟩
                obtain ⟨Ao, co, rfl, _⟩ := hvo.ex
                have hb5 := gr_call hbelX.out h5
                have k0 := ((S.out.2.2.2.2.2.2.1).call hb5).cell' (i := 0) rfl
                have k1 := ((S.out.2.2.2.2.2.2.1).call hb5).cell' (i := 1) rfl
                have kl := ((S.out.2.2.2.2.2.2.1).call hb5).lt
                have T := Lib.hid (And.intro hb5 ((S.out.2.2.2.2.2.2.2).below hb5))
                clear h5 hvo hb5 g0 g1 gl
                go_wp2_with (fail)
                refine (R.out.2.1 _ T.out.2).mono ?_
                rintro e W6 ⟨vo2, rfl, hvo2, h6⟩
                have hb6 := gr_call T.out.1 h6
                have g0 := ((S.out.2.1).call hb6).cell' (i := 0) rfl
                have gl := ((S.out.2.1).call hb6).lt
                have Z := Lib.hid (gr_call (S.out.1) hb6)
                clear h6 hvo2 hb6 k0 k1 kl
                go_wp2_with (fail)
                go_ret
                exact ⟨rfl, Z.out⟩
end Go.Proofs.Ytjgkiiohbceocaa
