/-
  waypostkit's SameInts and SameBools at what the answers are, walked; conditions: lists of at most 1000000 entries.
  waypostkit.SameEdges, SameGraph and the law's lists, walked; conditions: lists of at most 1000000 entries.
-/
import Derived.Test.YtjgkiiohbceocaaSdG
import Derived.Test.YtjgkiiohbceocaaSmI
import Derived.BigQuiet
import Derived.Deep.QuietTactic
namespace Go.Proofs.Ytjgkiiohbceocaa
open Go.RowKit
set_option linter.unusedVariables false
set_option linter.unusedSimpArgs false

def boolsAt (L : List Bool) : Nat → Nat → Value := fun i _ => .bool (L.getD i false)
/-- Two lists agreeB on their first k. -/
def agreeB (L M : List Bool) (k : Nat) : Prop := ∀ i, i < k → L.getD i false = M.getD i false
theorem agreeB_eq {L M : List Bool} (hl : L.length = M.length) (h : agreeB L M L.length) : L = M := by
  apply List.ext_getElem hl
  intro i h1 h2
  have := h i h1
  simpa [List.getD, h1, h2] using this

set_option maxRecDepth 100000 in
set_option maxHeartbeats 2000000 in
theorem sameBools (L M : List Bool) (A B : Option Addr) (c d : Nat) (hL : L.length ≤ 1000000) (hM : M.length ≤ 1000000) (w : World) (hA : Cells w A 1 L.length (boolsAt L)) (hB : Cells w B 1 M.length (boolsAt M)) :
    Calls Try.prog 28 #[.slice A L.length c, .slice B M.length d] w fun e W' => e = .returned (.bool (decide (L = M))) ∧ Below w.heap.size w W' := by
  have H := Lib.hid (And.intro hA hB)
  clear hA hB
  by_cases hl : L.length = M.length
  · have HL := Lib.hid hl
    rw [← hl]
    obtain ⟨n, hn⟩ : ∃ n, n = L.length := ⟨_, rfl⟩
    rw [← hn]
    rw [← hn] at hL
    have HN := Lib.hid hn
    clear hl hM hn
    go_enter Try.func28, Try.ntmps28
    go_wp2_with (fail)
    go_loopw [5] (fun i wr => Below w.heap.size w wr ∧ ∃ k : Nat, k ≤ n ∧ i = .int .i64 (k : Int) ∧ agreeB L M k) (fun i _ => n - (intOf i).toNat)
    case atStart => exact ⟨Below.refl _ _, 0, Nat.zero_le _, rfl, fun i hi => absurd hi (by omega)⟩
    case round =>
      obtain ⟨hbel, k, hk, rfl, hag⟩ := hrel
      have HG := Lib.hid hag
      have HB := Lib.hid hbel
      clear hag hbel
      by_cases hlt : k < n
      · obtain ⟨ab, ao, rfl, had, hcl⟩ := (H.out.1.below HB.out) (by rw [← HN.out]; omega)
        obtain ⟨bb, bo, rfl, hbd, hdl⟩ := (H.out.2.below HB.out) (by rw [← HL.out, ← HN.out]; omega)
        have c0 : wr.cell? ⟨ab, ao + k, none⟩ = some (.bool (L.getD k false)) := by have h1 := hcl k 0 (by rw [← HN.out]; exact hlt) (by decide); rw [Nat.mul_one, Nat.add_zero] at h1; exact h1
        have d0 : wr.cell? ⟨bb, bo + k, none⟩ = some (.bool (M.getD k false)) := by have h1 := hdl k 0 (by rw [← HL.out, ← HN.out]; exact hlt) (by decide); rw [Nat.mul_one, Nat.add_zero] at h1; exact h1
        clear hcl hdl
        generalize hx : L.getD k false = x at c0
        generalize hy : M.getD k false = y at d0
        have HXY := Lib.hid (And.intro hx hy)
        clear hx hy
        cases x <;> cases y
        case false.false =>
          go_wp2_with (fail)
          go_quiet (fail)
          go_wp2_with (fail)
          refine ⟨⟨below_drewN HB.out _, k + 1, by omega, by go_num, fun i hi => ?_⟩, by simp [intOf]; omega⟩
          by_cases e : i = k
          · subst e; rw [HXY.out.1, HXY.out.2]
          · exact HG.out i (by omega)
        case false.true =>
          go_wp2_with (fail)
          go_quiet (fail)
          go_wp2_with (fail)
          go_ret
          refine ⟨ret_bool ?_, below_drewN HB.out _⟩
          refine (decide_eq_false fun e => ?_).symm
          have h1 := HXY.out.1
          rw [e, HXY.out.2] at h1
          cases h1
        case true.false =>
          go_wp2_with (fail)
          go_quiet (fail)
          go_wp2_with (fail)
          go_ret
          refine ⟨ret_bool ?_, below_drewN HB.out _⟩
          refine (decide_eq_false fun e => ?_).symm
          have h1 := HXY.out.1
          rw [e, HXY.out.2] at h1
          cases h1
        case true.true =>
          go_wp2_with (fail)
          go_quiet (fail)
          go_wp2_with (fail)
          refine ⟨⟨below_drewN HB.out _, k + 1, by omega, by go_num, fun i hi => ?_⟩, by simp [intOf]; omega⟩
          by_cases e : i = k
          · subst e; rw [HXY.out.1, HXY.out.2]
          · exact HG.out i (by omega)
      · obtain rfl : k = n := by omega
        go_wp2_with (fail)
        go_ret
        refine ⟨ret_bool ?_, HB.out⟩
        exact (decide_eq_true (agreeB_eq HL.out (by rw [← HN.out]; exact HG.out))).symm
  · have hne : ((L.length : Int) != (M.length : Int)) = true := by
      rw [bne_iff_ne]
      omega
    have HQ := Lib.hid (fun e : L = M => hl (by rw [e]))
    clear hl
    go_enter Try.func28, Try.ntmps28
    go_wp2_with (fail)
    go_ret
    exact ⟨ret_bool (decide_eq_false HQ.out).symm, Below.refl _ _⟩


def toI (l : List Nat) : List Int := l.map fun (x : Nat) => (x : Int)
theorem toI_len (l : List Nat) : (toI l).length = l.length := by simp [toI]
theorem toI_inj {a b : List Nat} (h : toI a = toI b) : a = b := by
  unfold toI at h
  exact (List.map_inj_right (fun x y h => by have h : (x : Int) = (y : Int) := h; omega)).1 h
theorem nats_cells {W : World} {v : Value} {l : List Nat} (h : NatsAt W v l) : ∃ A c, v = .slice A (toI l).length c ∧ Cells W A 1 (toI l).length (intsAt (toI l)) := by
  obtain ⟨A, c, h1, h2⟩ := h.ex
  refine ⟨A, c, by rw [toI_len]; exact h1, fun hn => ?_⟩
  rw [toI_len] at hn
  obtain ⟨g, o, h3, h4, h5⟩ := h2 (fun e => by rw [e] at hn; simp at hn)
  refine ⟨g, o, h3, h4, fun i j hi hj => ?_⟩
  rw [toI_len] at hi
  obtain rfl : j = 0 := by omega
  rw [Nat.mul_one, Nat.add_zero, h5 i l[i] (List.getElem?_eq_getElem hi)]
  unfold intsAt toI
  rw [List.getD_eq_getElem?_getD, List.getElem?_map, List.getElem?_eq_getElem hi]
  rfl
theorem same_nats (a b : List Nat) (va vb : Value) (w : World) (ha : NatsAt w va a) (hb : NatsAt w vb b) (la : a.length ≤ 1000000) (lb : b.length ≤ 1000000) :
    Calls Try.prog 17 #[va, vb] w fun e W' => e = .returned (.bool (decide (a = b))) ∧ Below w.heap.size w W' := by
  obtain ⟨A, c, rfl, h1⟩ := nats_cells ha
  obtain ⟨B, d, rfl, h2⟩ := nats_cells hb
  refine (sameInts (toI a) (toI b) A B c d (by rw [toI_len]; exact la) (by rw [toI_len]; exact lb) w h1 h2).mono ?_
  rintro e W' ⟨h3, h4⟩
  refine ⟨?_, h4⟩
  rw [h3, show decide (toI a = toI b) = decide (a = b) from by
    rw [Bool.eq_iff_iff, decide_eq_true_eq, decide_eq_true_eq]
    exact ⟨toI_inj, fun h => by rw [h]⟩]
theorem bools_cells {W : World} {v : Value} {l : List Bool} (h : CellsAt W v (boolL l)) : ∃ A c, v = .slice A l.length c ∧ Cells W A 1 l.length (boolsAt l) := by
  obtain ⟨A, c, h1, h2⟩ := h.ex
  have hl : (boolL l).length = l.length := by simp [boolL]
  refine ⟨A, c, by rw [← hl]; exact h1, fun hn => ?_⟩
  obtain ⟨g, o, h3, h4, h5⟩ := h2 (fun e => by rw [← hl, e] at hn; simp at hn)
  refine ⟨g, o, h3, h4, fun i j hi hj => ?_⟩
  obtain rfl : j = 0 := by omega
  rw [Nat.mul_one, Nat.add_zero, h5 i (.bool l[i]) (by unfold boolL; rw [List.getElem?_map, List.getElem?_eq_getElem hi]; rfl)]
  unfold boolsAt
  rw [List.getD_eq_getElem?_getD, List.getElem?_eq_getElem hi]
  rfl
theorem same_bools (a b : List Bool) (va vb : Value) (w : World) (ha : CellsAt w va (boolL a)) (hb : CellsAt w vb (boolL b)) (la : a.length ≤ 1000000) (lb : b.length ≤ 1000000) :
    Calls Try.prog 28 #[va, vb] w fun e W' => e = .returned (.bool (decide (a = b))) ∧ Below w.heap.size w W' := by
  obtain ⟨A, c, rfl, h1⟩ := bools_cells ha
  obtain ⟨B, d, rfl, h2⟩ := bools_cells hb
  exact sameBools a b A B c d la lb w h1 h2
end Go.Proofs.Ytjgkiiohbceocaa
namespace Go.Proofs.Ytjgkiiohbceocaa
open Go.RowKit
set_option linter.unusedVariables false
set_option linter.unusedSimpArgs false

deriving instance DecidableEq for Edg
def agreeE (L M : List Edg) (k : Nat) : Prop := ∀ i, i < k → L[i]? = M[i]?
theorem agreeE_eq {L M : List Edg} (hl : L.length = M.length) (h : agreeE L M L.length) : L = M := by
  apply List.ext_getElem? 
  intro i
  by_cases hi : i < L.length
  · exact h i hi
  · rw [List.getElem?_eq_none (by omega), List.getElem?_eq_none (by omega)]

set_option maxRecDepth 100000 in
set_option maxHeartbeats 2000000 in
theorem same_edges (L M : List Edg) (A B : Option Addr) (c d : Nat) (hL : L.length ≤ 1000000) (hM : M.length ≤ 1000000) (w : World) (hA : Cells w A 2 L.length (edAt L)) (hB : Cells w B 2 M.length (edAt M)) :
    Calls Try.prog 52 #[.slice A L.length c, .slice B M.length d] w fun e W' => e = .returned (.bool (decide (L = M))) ∧ Below w.heap.size w W' := by
  have H := Lib.hid (And.intro hA hB)
  clear hA hB
  by_cases hl : L.length = M.length
  · have HL := Lib.hid hl
    rw [← hl]
    obtain ⟨n, hn⟩ : ∃ n, n = L.length := ⟨_, rfl⟩
    rw [← hn]
    rw [← hn] at hL
    have HN := Lib.hid hn
    clear hl hM hn
    go_enter Try.func52, Try.ntmps52
    go_wp2_with (fail)
    go_loopw [5] (fun i wr => Below w.heap.size w wr ∧ ∃ k : Nat, k ≤ n ∧ i = .int .i64 (k : Int) ∧ agreeE L M k) (fun i _ => n - (intOf i).toNat)
    case atStart => exact ⟨Below.refl _ _, 0, Nat.zero_le _, rfl, fun i hi => absurd hi (by omega)⟩
    case round =>
      obtain ⟨hbel, k, hk, rfl, hag⟩ := hrel
      have HG := Lib.hid hag
      have HB := Lib.hid hbel
      clear hag hbel
      by_cases hlt : k < n
      · obtain ⟨p, hp⟩ : ∃ p, L[k]? = some p := ⟨_, List.getElem?_eq_getElem (by rw [← HN.out]; exact hlt)⟩
        obtain ⟨q, hq⟩ : ∃ q, M[k]? = some q := ⟨_, List.getElem?_eq_getElem (by rw [← HL.out, ← HN.out]; exact hlt)⟩
        obtain ⟨ab, ao, rfl, had, c0, c1⟩ := cells_edg (H.out.1.below HB.out) hp
        obtain ⟨bb, bo, rfl, hbd, d0, d1⟩ := cells_edg (H.out.2.below HB.out) hq
        obtain ⟨pf, pt⟩ := p
        obtain ⟨qf, qt⟩ := q
        replace c0 : wr.cell? ⟨ab, ao + k * 2, none⟩ = some (.int .i64 pf) := c0
        replace c1 : wr.cell? ⟨ab, ao + k * 2 + 1, none⟩ = some (.int .i64 pt) := c1
        replace d0 : wr.cell? ⟨bb, bo + k * 2, none⟩ = some (.int .i64 qf) := d0
        replace d1 : wr.cell? ⟨bb, bo + k * 2 + 1, none⟩ = some (.int .i64 qt) := d1
        have HP := Lib.hid (And.intro hp hq)
        clear hp hq
        by_cases hxy : pf = qf ∧ pt = qt
        · obtain ⟨rfl, rfl⟩ := hxy
          go_wp2_with (fail)
          go_quiet (fail)
          go_wp2_with (fail)
          refine ⟨⟨below_drewN HB.out _, k + 1, by omega, by go_num, fun i hi => ?_⟩, by simp [intOf]; omega⟩
          by_cases e : i = k
          · subst e; rw [HP.out.1, HP.out.2]
          · exact HG.out i (by omega)
        · have HQ := Lib.hid hxy
          by_cases hx1 : pf = qf
          · have hx2 : ¬ pt = qt := fun h => hxy ⟨hx1, h⟩
            subst hx1
            have hb2 : (pt == qt) = false := by simpa using hx2
            clear hxy
            go_wp2_with (fail)
            go_quiet (fail)
            go_wp2_with (fail)
            go_ret
            refine ⟨ret_bool ?_, below_drewN HB.out _⟩
            refine (decide_eq_false fun e => HQ.out ?_).symm
            have h1 := HP.out.1
            rw [e, HP.out.2] at h1
            cases h1
            first | exact ⟨rfl, rfl⟩ | exact ⟨trivial, rfl⟩
          · have hb1 : (pf == qf) = false := by simpa using hx1
            clear hxy
            go_wp2_with (fail)
            go_quiet (fail)
            go_wp2_with (fail)
            go_ret
            refine ⟨ret_bool ?_, below_drewN HB.out _⟩
            refine (decide_eq_false fun e => HQ.out ?_).symm
            have h1 := HP.out.1
            rw [e, HP.out.2] at h1
            cases h1
            first | exact ⟨rfl, rfl⟩ | exact ⟨trivial, rfl⟩
      · obtain rfl : k = n := by omega
        go_wp2_with (fail)
        go_ret
        refine ⟨ret_bool ?_, HB.out⟩
        exact (decide_eq_true (agreeE_eq HL.out (by rw [← HN.out]; exact HG.out))).symm
  · have hne : ((L.length : Int) != (M.length : Int)) = true := by
      rw [bne_iff_ne]
      omega
    have HQ := Lib.hid (fun e : L = M => hl (by rw [e]))
    clear hl
    go_enter Try.func52, Try.ntmps52
    go_wp2_with (fail)
    go_ret
    exact ⟨ret_bool (decide_eq_false HQ.out).symm, Below.refl _ _⟩

set_option maxRecDepth 100000 in
set_option maxHeartbeats 2000000 in
theorem same_graph (a b : Int) (L M : List Edg) (A B : Option Addr) (c d : Nat) (hL : L.length ≤ 1000000) (hM : M.length ≤ 1000000) (w : World) (hA : Cells w A 2 L.length (edAt L)) (hB : Cells w B 2 M.length (edAt M)) :
    Calls Try.prog 20 #[.agg #[.int .i64 a, .slice A L.length c], .agg #[.int .i64 b, .slice B M.length d]] w fun e W' => e = .returned (.bool (decide (a = b) && decide (L = M))) ∧ Below w.heap.size w W' := by
  have b0 := gr_alloc (gr_alloc (Below.refl w.heap.size w) (.cells #[.int .i64 a, .slice A L.length c] 24)) (.cells #[.int .i64 b, .slice B M.length d] 24)
  have hsm := same_edges L M A B c d hL hM _ (hA.below b0) (hB.below b0)
  have k0 : Blk ((w.alloc (.cells #[.int .i64 a, .slice A L.length c] 24)).alloc (.cells #[.int .i64 b, .slice B M.length d] 24)) w.heap.size 24 #[.int .i64 a, .slice A L.length c] := (Blk.new w _ _).alloc _
  have k1 : Blk ((w.alloc (.cells #[.int .i64 a, .slice A L.length c] 24)).alloc (.cells #[.int .i64 b, .slice B M.length d] 24)) (w.heap.size + 1) 24 #[.int .i64 b, .slice B M.length d] := blk_at (by simp)
  obtain ⟨x, hx⟩ : ∃ x, x = L.length := ⟨_, rfl⟩
  obtain ⟨y, hy⟩ : ∃ y, y = M.length := ⟨_, rfl⟩
  rw [← hx, ← hy] at hsm b0 k0 k1 ⊢
  have c0 := k0.cell' (i := 0) rfl
  have c1 := k0.cell' (i := 1) rfl
  have d0 := k1.cell' (i := 0) rfl
  have d1 := k1.cell' (i := 1) rfl
  have H := Lib.hid (And.intro b0 hsm)
  clear b0 hsm k0 k1 hA hB hx hy hL hM
  by_cases hab : a = b
  · subst hab
    go_enter Try.func20, Try.ntmps20
    go_wp2_with (fail)
    refine H.out.2.mono ?_
    rintro e W1 ⟨rfl, h1⟩
    go_wp2_with (fail)
    go_ret
    exact ⟨by simp, gr_call H.out.1 h1⟩
  · have hb1 : (a == b) = false := by simpa using hab
    have HQ := Lib.hid hab
    clear hab
    go_enter Try.func20, Try.ntmps20
    go_wp2_with (fail)
    go_ret
    exact ⟨by rw [decide_eq_false HQ.out]; rfl, H.out.1⟩

def agreeL (L M : List (List Nat)) (k : Nat) : Prop := ∀ i, i < k → L[i]? = M[i]?
theorem agreeL_eq {L M : List (List Nat)} (hl : L.length = M.length) (h : agreeL L M L.length) : L = M := by
  apply List.ext_getElem? 
  intro i
  by_cases hi : i < L.length
  · exact h i hi
  · rw [List.getElem?_eq_none (by omega), List.getElem?_eq_none (by omega)]

set_option maxRecDepth 100000 in
set_option maxHeartbeats 2000000 in
theorem lists_law (L M : List (List Nat)) (va vb : Value) (hL : L.length ≤ 1000000) (hM : M.length ≤ 1000000) (h1 : ∀ l ∈ L, l.length ≤ 1000000) (h2 : ∀ l ∈ M, l.length ≤ 1000000) (w : World) (hA : LLAt w va L) (hB : LLAt w vb M) :
    Calls Try.prog 27 #[va, vb] w fun e W' => e = .returned (.bool (decide (L = M))) ∧ Below w.heap.size w W' := by
  obtain ⟨A, c, rfl, hAx⟩ := hA.ex
  obtain ⟨B, d, rfl, hBx⟩ := hB.ex
  have H := Lib.hid (And.intro hAx (And.intro hBx (And.intro h1 h2)))
  clear hA hB hAx hBx h1 h2
  by_cases hl : L.length = M.length
  · have HL := Lib.hid hl
    rw [← hl]
    obtain ⟨n, hn⟩ : ∃ n, n = L.length := ⟨_, rfl⟩
    rw [← hn]
    rw [← hn] at hL
    have HN := Lib.hid hn
    clear hl hM hn
    go_enter Try.func27, Try.ntmps27
    go_wp2_with (fail)
    go_loopw [5] (fun i wr => Below w.heap.size w wr ∧ ∃ k : Nat, k ≤ n ∧ i = .int .i64 (k : Int) ∧ agreeL L M k) (fun i _ => n - (intOf i).toNat)
    case atStart => exact ⟨Below.refl _ _, 0, Nat.zero_le _, rfl, fun i hi => absurd hi (by omega)⟩
    case round =>
      obtain ⟨hbel, k, hk, rfl, hag⟩ := hrel
      by_cases hlt : k < n
      · obtain ⟨p, hp⟩ : ∃ p, L[k]? = some p := ⟨_, List.getElem?_eq_getElem (by rw [← HN.out]; exact hlt)⟩
        obtain ⟨q, hq⟩ : ∃ q, M[k]? = some q := ⟨_, List.getElem?_eq_getElem (by rw [← HL.out, ← HN.out]; exact hlt)⟩
        obtain ⟨g1, rfl, hg1, hc1⟩ := H.out.1 (fun e => by rw [e] at hp; simp at hp)
        obtain ⟨g2, rfl, hg2, hc2⟩ := H.out.2.1 (fun e => by rw [e] at hq; simp at hq)
        obtain ⟨ua, ca, hua⟩ := hc1 k p hp
        obtain ⟨ub, cb, hub⟩ := hc2 k q hq
        have hsm := same_nats p q ua ub wr.drew (hua.below (gr_drew hbel)) (hub.below (gr_drew hbel)) (H.out.2.2.1 p (List.mem_of_getElem? hp)) (H.out.2.2.2 q (List.mem_of_getElem? hq))
        obtain ⟨x1, y1, hua', _⟩ := hua.ex
        obtain ⟨x2, y2, hub', _⟩ := hub.ex
        obtain ⟨n1, hn1⟩ : ∃ n1, ua = .slice x1 n1 y1 := ⟨_, hua'⟩
        obtain ⟨n2, hn2⟩ : ∃ n2, ub = .slice x2 n2 y2 := ⟨_, hub'⟩
        subst hn1 hn2
        have cA := (hbel.cell (p := ⟨g1, k, none⟩) hg1).trans ca
        have cB := (hbel.cell (p := ⟨g2, k, none⟩) hg2).trans cb
        have l1 := Nat.lt_of_lt_of_le hg1 hbel.size
        have l2 := Nat.lt_of_lt_of_le hg2 hbel.size
        have hsm' : Calls Try.prog 17 #[.slice x1 n1 y1, .slice x2 n2 y2] wr.drew fun e w' => e = .returned (.bool (decide (p = q))) ∧ (Below wr.heap.size wr w' ∧ (w'.cell? ⟨g1, k, none⟩ = some (.slice x1 n1 y1) ∧ w'.cell? ⟨g2, k, none⟩ = some (.slice x2 n2 y2))) := by
          refine hsm.mono ?_
          rintro e w' ⟨h5, h6⟩
          have h7 : Below wr.heap.size wr w' := gr_call (gr_drew (Below.refl wr.heap.size wr)) h6
          exact ⟨h5, h7, (h7.cell (p := ⟨g1, k, none⟩) l1).trans cA, (h7.cell (p := ⟨g2, k, none⟩) l2).trans cB⟩
        have HG := Lib.hid (And.intro hag (And.intro hbel (And.intro hp hq)))
        clear hag hbel hp hq hsm hua hub hua' hub' hc1 hc2 ca cb
        go_wp2_with (fail)
        go_region_held_law (fun w' => w'.cell? ⟨g1, k, none⟩ = some (.slice x1 n1 y1) ∧ w'.cell? ⟨g2, k, none⟩ = some (.slice x2 n2 y2))
          (first
            | assumption
            | (simp only [World.cell?_drew]; (refine ⟨?_, ?_⟩ <;> assumption)))
          ((go_at_call 17; refine hsm'.mono ?_; rintro e w3 ⟨rfl, h3, hs3⟩))
        have hb3 := Lib.hid (gr_call HG.out.2.1 h3)
        clear h3 hs3 hsm'
        by_cases hpq : p = q
        · rw [show (!decide (p = q)) = false by simp [hpq]]
          have HQ := Lib.hid hpq
          clear hpq
          go_wp2_with (fail)
          go_roundw
          case rel =>
            refine ⟨hb3.out, k + 1, by omega, by go_num, fun i hi => ?_⟩
            by_cases e : i = k
            · subst e; rw [HG.out.2.2.1, HG.out.2.2.2, HQ.out]
            · exact HG.out.1 i (by omega)
          case measure => simp [intOf]; omega
        · rw [show (!decide (p = q)) = true by simp [hpq]]
          have HQ := Lib.hid hpq
          clear hpq
          go_wp2_with (fail)
          go_ret
          refine ⟨ret_bool ?_, hb3.out⟩
          refine (decide_eq_false fun e => HQ.out ?_).symm
          have h1 := HG.out.2.2.1
          rw [e, HG.out.2.2.2] at h1
          exact (Option.some.inj h1).symm
      · obtain rfl : k = n := by omega
        have HB := Lib.hid (And.intro hbel hag)
        clear hbel hag
        go_wp2_with (fail)
        go_ret
        refine ⟨ret_bool ?_, HB.out.1⟩
        exact (decide_eq_true (agreeL_eq HL.out (by rw [← HN.out]; exact HB.out.2))).symm
  · have hne : ((L.length : Int) != (M.length : Int)) = true := by
      rw [bne_iff_ne]
      omega
    have HQ := Lib.hid (fun e : L = M => hl (by rw [e]))
    clear hl
    go_enter Try.func27, Try.ntmps27
    go_wp2_with (fail)
    go_ret
    exact ⟨ret_bool (decide_eq_false HQ.out).symm, Below.refl _ _⟩
end Go.Proofs.Ytjgkiiohbceocaa
