/-
  For SccWeighs: what the heaviest chain is, in plain words; At and linked, walked; no condition.
-/
import Derived.Test.YtjgkiiohbceocaaSeN
namespace Go.Proofs.Ytjgkiiohbceocaa
open Go.RowKit
set_option linter.unusedVariables false
set_option linter.unusedSimpArgs false

def sumO (own : Nat → Nat) (l : List Nat) : Nat := (l.map own).sum
theorem sumO_take {own : Nat → Nat} {l : List Nat} {k x : Nat} (h : l[k]? = some x) : sumO own (l.take (k + 1)) = sumO own (l.take k) + own x := by
  unfold sumO
  rw [List.take_add_one, h]
  simp
structure ChOk (np : Nat) (e : Nat → Nat → Bool) (own : Nat → Nat) (i x : Nat) (ch : List Nat) : Prop where
  hd : ch.head? = some i
  lt : ∀ c ∈ ch, c < np
  sum : sumO own ch = x
  step : ∀ (k u v : Nat), ch[k]? = some u → ch[k + 1]? = some v → u < v ∧ v < np ∧ e u v = true
theorem chain_ok {np : Nat} {e : Nat → Nat → Bool} {own : Nat → Nat} : ∀ (d i : Nat), np - i ≤ d → i < np → ChOk np e own i (hvF np e own i).1 (hvF np e own i).2
  | 0, i, h, hi => by omega
  | d + 1, i, h, hi => by
    have h0 := hvF_at (e := e) (own := own) hi
    rcases hvI_what e own i (hvF np e own) (np - (i + 1)) with h1 | ⟨k, h1, h2, h3, h4, _, _⟩
    · rw [h0, h1]
      refine ⟨rfl, fun c hc => ?_, by unfold sumO; simp, fun k u v hu hv => ?_⟩
      · rw [List.mem_singleton] at hc; omega
      · simp at hv
    · rw [h0, h4]
      have ih := chain_ok (np := np) (e := e) (own := own) d k (by omega) (by omega)
      obtain ⟨t, ht⟩ : ∃ t, (hvF np e own k).2 = k :: t := by
        have := ih.hd
        cases hc : (hvF np e own k).2 with
        | nil => rw [hc] at this; cases this
        | cons x t => rw [hc] at this; simp at this; exact ⟨t, by rw [this]⟩
      refine ⟨rfl, fun c hc => ?_, ?_, fun j u v hu hv => ?_⟩
      · rcases List.mem_cons.1 hc with rfl | hc
        · exact hi
        · exact ih.lt c hc
      · have := ih.sum
        unfold sumO at this ⊢
        rw [List.map_cons, List.sum_cons, this]
      · cases j with
        | zero =>
          rw [ht] at hv
          simp at hu hv
          subst hu hv
          exact ⟨h1, by omega, h3⟩
        | succ j => exact ih.step j u v hu hv
/-- What the law asks of the answer. -/
structure WgOk (m np : Nat) (ls : List (List Nat)) (e : Nat → Nat → Bool) (own : Nat → Nat) (wl : List Nat) (x : Nat) (ch : List Nat) : Prop where
  np_ : np = ls.length ∧ np ≤ 64
  part : ∀ (k : Nat) (cc : List Nat), ls[k]? = some cc → cc ≠ [] ∧ cc.length ≤ 64 ∧ (∀ y ∈ cc, y < m) ∧ own k = oT (toI wl) cc
  own_ : ∀ i, own i ≤ 1000
  topo : ∀ i k, k ≤ i → k ≠ i → e i k = false
  zero : (m = 0 ↔ ch = []) ∧ ch.length ≤ 1000000
  lt : ∀ c ∈ ch, c < np
  sum : sumO own ch = x
  step : ∀ (k u v : Nat), ch[k]? = some u → ch[k + 1]? = some v → (u, v) ∈ condL np e
  best : ∀ i, i < np → bstF np e own i ≤ x
  xle : x ≤ 64000
theorem wg_ok {m : Nat} {l : List Edg} (h : (chkG (m : Int) l).1 = 0) (wl : List Nat) (hwl : wl.length = m) (hw5 : ∀ y ∈ wl, y ≤ 1000) :
    ∃ (np : Nat) (e : Nat → Nat → Bool) (own : Nat → Nat), eHv (m : Int) l (toI wl) = 0 ∧ vCondN (m : Int) l = (np : Int) ∧ vCond (m : Int) l = (condL np e).map conE ∧ WgOk m np (vParts (m : Int) l) e own wl (vHv (m : Int) l (toI wl)).1 (vHv (m : Int) l (toI wl)).2 := by
  obtain ⟨m', e1, hm, hv, hw, ht⟩ := ok_nat h
  obtain rfl : m = m' := by omega
  have hR : rR (m : Int) l = rea m (relE l) := by unfold rR; rw [Int.toNat_natCast]
  have hP : pV (m : Int) l = partsV m (rea m (relE l)) := by unfold pV; rw [hR, Int.toNat_natCast]
  have h1 : vParts (m : Int) l = partsV m (rea m (relE l)) := by unfold vParts; rw [if_pos h, hP]
  have hpw := parts_what ht hm
  have hbad : (toI wl).any badW = false := by
    rw [List.any_eq_false]
    intro x hx
    obtain ⟨y, hy, rfl⟩ := List.mem_map.1 hx
    have := hw5 y hy
    unfold badW
    rw [decide_eq_false (show ¬ ((y : Nat) : Int) < 0 by omega), decide_eq_false (show ¬ (1000 : Int) < ((y : Nat) : Int) by omega)]; decide
  have hlen : ((toI wl).length : Int) = (m : Int) := by rw [toI_len, hwl]
  have hE : eHv (m : Int) l (toI wl) = 0 := by
    unfold eHv; rw [if_pos h, if_pos hlen, if_neg (by rw [hbad]; decide)]
  have hV : vHv (m : Int) l (toI wl) = hvV m (relE l) (toI wl) (partsV m (rea m (relE l))) := by unfold vHv; rw [hE, if_pos rfl, Int.toNat_natCast, hP]
  obtain ⟨ls, hls⟩ : ∃ x, x = partsV m (rea m (relE l)) := ⟨_, rfl⟩
  have ho : ∀ i, ownF (toI wl) ls i ≤ 1000 := ownF_le hbad ls
  have htopo : ∀ i k, k ≤ i → k ≠ i → edgP (relE l) ls i k = false := by
    intro i k a b
    cases e : edgP (relE l) ls i k with
    | false => rfl
    | true => rw [hls] at e; have := edgP_topo hw (fun h => b h.symm) e; omega
  have hlen2 := (ways_len (m : Int) l 0 0 (toI wl)).2.2
  refine ⟨ls.length, edgP (relE l) ls, ownF (toI wl) ls, hE, ?_, ?_, ?_⟩
  · unfold vCondN; rw [if_pos h, hP, ← hls]
  · unfold vCond condV; rw [if_pos h, hP, ← hls]
  · rw [hV] at hlen2
    rw [hV, h1]
    rw [← hls] at hpw hlen2 ⊢
    obtain ⟨np, hnp⟩ : ∃ x, x = ls.length := ⟨_, rfl⟩
    have hdef : hvV m (relE l) (toI wl) ls = match argM (bstF np (edgP (relE l) ls) (ownF (toI wl) ls)) np with | none => (0, []) | some a => hvF np (edgP (relE l) ls) (ownF (toI wl) ls) a := by rw [hnp]; rfl
    rw [← hnp] at hpw ⊢
    have hpart : ∀ (k : Nat) (cc : List Nat), ls[k]? = some cc → cc ≠ [] ∧ cc.length ≤ 64 ∧ (∀ y ∈ cc, y < m) ∧ ownF (toI wl) ls k = oT (toI wl) cc := by
      intro k cc hc
      have hcm := List.mem_of_getElem? hc
      refine ⟨(hpw.2 cc hcm).1, (hpw.2 cc hcm).2.1, fun y hy => ?_, by unfold ownF; rw [hc]; rfl⟩
      rw [hls] at hc
      obtain ⟨r, _, rfl⟩ := partsV_at hc
      exact (mem_mem.1 hy).1
    by_cases hm0 : m = 0
    · have hn0 : np = 0 := by
        refine Classical.byContradiction fun hne => ?_
        obtain ⟨cc, hcc⟩ : ∃ cc, ls[0]? = some cc := ⟨_, List.getElem?_eq_getElem (by omega)⟩
        obtain ⟨a, b, c, _⟩ := hpart 0 cc hcc
        obtain ⟨y, hy⟩ := List.exists_mem_of_ne_nil cc a
        have := c y hy
        omega
      rw [hn0] at hdef
      have hd2 : hvV m (relE l) (toI wl) ls = (0, []) := hdef
      rw [hd2]
      exact ⟨⟨hnp, by omega⟩, hpart, ho, htopo, ⟨⟨fun _ => rfl, fun _ => hm0⟩, Nat.zero_le _⟩, (fun c hc => by cases hc), rfl, (fun k u v hu _ => by cases hu), (fun i hi => by omega), Nat.zero_le _⟩
    · have hn1 : 0 < np := by
        have := parts_lt ht (show 0 < m by omega)
        rw [← hls, ← hnp] at this
        omega
      obtain ⟨a, ha1, ha2, ha3⟩ := argM_some (bstF np (edgP (relE l) ls) (ownF (toI wl) ls)) np hn1
      rw [ha1] at hdef
      have hd2 : hvV m (relE l) (toI wl) ls = hvF np (edgP (relE l) ls) (ownF (toI wl) ls) a := hdef
      have hch := chain_ok (e := edgP (relE l) ls) (own := ownF (toI wl) ls) np a (by omega) ha2
      rw [hd2] at hlen2 ⊢
      refine ⟨⟨hnp, hpw.1⟩, hpart, ho, htopo, ⟨⟨fun h => absurd h hm0, fun h => ?_⟩, hlen2⟩, hch.lt, hch.sum, fun k u v hu hv => ?_, fun i hi => ha3 i hi, ?_⟩
      · have := hch.hd; rw [h] at this; cases this
      · obtain ⟨c1, c2, c3⟩ := hch.step k u v hu hv
        exact mem_condTo.2 ⟨by omega, c2, by omega, c3⟩
      · have := (hvS_bound (m := np) (e := edgP (relE l) ls) ho np a).1
        have := hpw.1
        unfold hvF
        omega
set_option maxRecDepth 100000 in
set_option maxHeartbeats 4000000 in
theorem at_law (nl : List Int) (A : Option Addr) (c : Nat) (i : Nat) (hi : i ≤ 1000000) (w : World) (hA : Cells w A 1 nl.length (intsAt nl)) (hb : ∀ x ∈ nl, -9223372036854775808 ≤ x ∧ x ≤ 9223372036854775807) :
    Calls Try.prog 41 #[.slice A nl.length c, .int .i64 (i : Int)] w fun e w' => ∃ x : Int, e = .returned (.int .i64 x) ∧ (-9223372036854775808 ≤ x ∧ x ≤ 9223372036854775807) ∧ w = w' := by
  obtain ⟨n, hn⟩ : ∃ n, n = nl.length := ⟨_, rfl⟩
  by_cases hin : i < nl.length
  · obtain ⟨g, o, rfl, h2, h3⟩ := hA (by omega)
    have hx : nl[i]? = some nl[i] := List.getElem?_eq_getElem hin
    have hc := h3 i 0 hin (by decide)
    rw [Nat.mul_one, Nat.add_zero] at hc
    have he : intsAt nl i 0 = .int .i64 nl[i] := by unfold intsAt; rw [List.getD_eq_getElem?_getD, hx]; rfl
    rw [he] at hc
    have hbx := hb _ (List.getElem_mem hin)
    obtain ⟨x, hxe⟩ : ∃ x, x = nl[i] := ⟨_, rfl⟩
    rw [← hxe] at hc hbx
    rw [← hn] at hin ⊢
    have hi1 : (i : Int) < (n : Int) := by omega
    have hi2 : ¬ ((i : Int) < 0) := by omega
    have hi3 : ¬ ((n : Int) ≤ (i : Int)) := by omega
    have F := Lib.hid hbx
    clear hx hb he hxe hbx h3 hA hn
    go_enter Try.func41, Try.ntmps41
    go_wp2_with (fail)
    go_ret
    exact ⟨x, rfl, F.out, rfl⟩
  · rw [← hn] at hin ⊢
    have hi2 : ¬ ((i : Int) < 0) := by omega
    have hi3 : (n : Int) ≤ (i : Int) := by omega
    clear hA hb hn
    go_enter Try.func41, Try.ntmps41
    go_wp2_with (fail)
    go_ret
    exact ⟨0, rfl, by decide, rfl⟩
set_option maxRecDepth 100000 in
set_option maxHeartbeats 4000000 in
theorem linked_law (N : Int) (L : List (Nat × Nat)) (u v : Nat) (hl : L.length ≤ 1000000) (A : Option Addr) (c : Nat) (w : World) (hA : Cells w A 2 (L.map conE).length (edAt (L.map conE))) :
    Calls Try.prog 42 #[.agg #[.int .i64 N, .slice A (L.map conE).length c], .int .i64 (u : Int), .int .i64 (v : Int)] w fun e w' => e = .returned (.bool (decide ((u, v) ∈ L))) ∧ Below w.heap.size w w' := by
  obtain ⟨n, hn⟩ : ∃ n, n = (L.map conE).length := ⟨_, rfl⟩
  have hn2 : n = L.length := by rw [hn, List.length_map]
  have b0 := gr_alloc (Below.refl w.heap.size w) (.cells #[.int .i64 N, .slice A n c] 24)
  have k0 := Blk.new w 24 #[.int .i64 N, .slice A n c]
  have H := Lib.hid (And.intro b0 (And.intro k0 (And.intro (hA.below b0) hn2)))
  rw [← hn]
  have hn6 : n ≤ 1000000 := by omega
  clear b0 k0 hA hn hn2
  go_enter Try.func42, Try.ntmps42
  go_wp2_with (fail)
  go_loopg [7] n (fun q iv wr => ∃ i : Nat, q = n - i ∧ i ≤ n ∧ iv = .int .i64 (i : Int) ∧ Below w.heap.size w wr ∧ Below (w.alloc (.cells #[.int .i64 N, .slice A n c] 24)).heap.size (w.alloc (.cells #[.int .i64 N, .slice A n c] 24)) wr ∧ (u, v) ∉ L.take i)
  case atStart => exact ⟨0, rfl, Nat.zero_le _, rfl, H.out.1, Below.refl _ _, by rw [List.take_zero]; exact fun h => by cases h⟩
  case round =>
    obtain ⟨i, hq, hi, rfl, hbel, hbz, hno⟩ := hrel
    have kG := H.out.2.1.call hbz
    have g1 := kG.cell' (i := 1) rfl
    have gl := kG.lt
    by_cases hin : i < n
    · have hi' : (i : Int) < (n : Int) := by omega
      obtain ⟨⟨a, b⟩, hx⟩ : ∃ x, L[i]? = some x := ⟨_, List.getElem?_eq_getElem (by rw [← H.out.2.2.2]; exact hin)⟩
      obtain ⟨ab, ao, rfl, hab, ca, cb⟩ := cells_edg (H.out.2.2.1.below hbz) (k := i) (p := conE (a, b)) (by rw [List.getElem?_map, hx]; rfl)
      replace ca : wr.cell? ⟨ab, ao + i * 2, none⟩ = some (.int .i64 (a : Int)) := ca
      replace cb : wr.cell? ⟨ab, ao + i * 2 + 1, none⟩ = some (.int .i64 (b : Int)) := cb
      have hno2 : ¬ (a = u ∧ b = v) → (u, v) ∉ L.take (i + 1) := fun hne => by
        rw [List.take_add_one, hx]
        intro h
        rcases List.mem_append.1 h with h | h
        · exact hno h
        · simp at h; exact hne ⟨h.1.symm, h.2.symm⟩
      by_cases hau : a = u
      · by_cases hbv : b = v
        · subst hau hbv
          have hin2 := List.mem_of_getElem? hx
          have F := Lib.hid (And.intro hbel hin2)
          clear hq hbel hbz hno hno2 hx kG hin2
          go_wp2_with (fail)
          go_ret
          exact ⟨by rw [decide_eq_true F.out.2]; rfl, F.out.1⟩
        · have h3 := hno2 (fun h => hbv h.2)
          have hbv' : ¬ ((b : Int) = (v : Int)) := by omega
          subst hau
          have F := Lib.hid (And.intro hq (And.intro hbel (And.intro hbz h3)))
          clear hq hbel hbz hno hno2 hx kG h3 hbv
          go_wp2_with (fail)
          go_roundg (n - (i + 1))
          case measure => have := F.out.1; omega
          case rel => exact ⟨i + 1, rfl, hin, by simp, F.out.2.1, F.out.2.2.1, F.out.2.2.2⟩
      · have h3 := hno2 (fun h => hau h.1)
        have hau' : ¬ ((a : Int) = (u : Int)) := by omega
        have F := Lib.hid (And.intro hq (And.intro hbel (And.intro hbz h3)))
        clear hq hbel hbz hno hno2 hx kG h3 hau
        go_wp2_with (fail)
        go_roundg (n - (i + 1))
        case measure => have := F.out.1; omega
        case rel => exact ⟨i + 1, rfl, hin, by simp, F.out.2.1, F.out.2.2.1, F.out.2.2.2⟩
    · have ei : i = n := by omega
      subst i
      rw [H.out.2.2.2, List.take_length] at hno
      have F := Lib.hid (And.intro hbel hno)
      clear hbel hbz hno hq hin kG
      go_wp2_with (fail)
      go_ret
      exact ⟨by rw [decide_eq_false F.out.2]; rfl, F.out.1⟩
end Go.Proofs.Ytjgkiiohbceocaa
