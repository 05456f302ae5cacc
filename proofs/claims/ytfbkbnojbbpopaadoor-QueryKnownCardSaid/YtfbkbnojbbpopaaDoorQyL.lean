/-
  query's Decoded, walked; conditions: strings of at most 1000000 bytes, a variable of the library is an int.
-/
import Derived.Test.YtfbkbnojbbpopaaDoorQyK
import Derived.Test.YtfbkbnojbbpopaaDoorQyC
namespace Go.Proofs.YtfbkbnojbbpopaaDoor
open Go.RowKit
set_option linter.unusedVariables false
set_option linter.unusedSimpArgs false

/-! A list of pairs in memory. -/
theorem flatP_at (l : List Pr) : ∀ i, (flatP l)[i]? = (l[i / 3]?).bind (fun p => (pairV p)[i % 3]?) := by
  induction l with
  | nil => intro i; simp [flatP]
  | cons a t ih =>
    intro i
    have e : flatP (a :: t) = pairV a ++ flatP t := rfl
    rw [e, List.getElem?_append]
    have hl : (pairV a).length = 3 := rfl
    by_cases h : i < 3
    · rw [if_pos (by rw [hl]; exact h), Nat.div_eq_of_lt h, Nat.mod_eq_of_lt h]
      rfl
    · rw [if_neg (by rw [hl]; exact h), hl, ih (i - 3)]
      have e1 : i / 3 = (i - 3) / 3 + 1 := by omega
      have e2 : i % 3 = (i - 3) % 3 := by omega
      rw [e1, e2]
      rfl
theorem flatP_set (l : List Pr) (k : Nat) (p : Pr) (a b : ByteArray) (hp : l[k]? = some p) : flatP (l.set k ⟨a, b, p.b⟩) = ((flatP l).set (k * 3) (.string a)).set (k * 3 + 1) (.string b) := by
  have hk := (List.getElem?_eq_some_iff.1 hp).1
  apply List.ext_getElem?
  intro i
  rw [flatP_at, List.getElem?_set, List.getElem?_set, List.getElem?_set, flatP_at]
  have hlen := flatP_len l
  by_cases h : k = i / 3
  · rw [if_pos h, if_pos hk, ← h, hp]
    have h3 : i % 3 = 0 ∨ i % 3 = 1 ∨ i % 3 = 2 := by omega
    rcases h3 with h3 | h3 | h3
    · rw [if_neg (by omega), if_pos (by omega), if_pos (by omega), h3]; rfl
    · rw [if_pos (by omega), if_pos (by rw [List.length_set]; omega), h3]; rfl
    · rw [if_neg (by omega), if_neg (by omega), h3]; rfl
  · rw [if_neg h, if_neg (by omega), if_neg (by omega)]
/-- A list of pairs in a row of one's own. -/
abbrev OwnP (W : World) (B : Nat) (v : Value) (l : List Pr) : Prop := W.ownsRow B 44 3 v l.length (flatP l)
theorem own_pair {W : World} {B : Nat} {v : Value} {l : List Pr} (h : OwnP W B v l) {k : Nat} {p : Pr} (hp : l[k]? = some p) :
    ∃ g c, v = .slice (some ⟨g, 0, none⟩) l.length c ∧ B ≤ g ∧ (∃ cur, Blk W g 44 cur) ∧ W.cell? ⟨g, k * 3, none⟩ = some (.string p.n) ∧ W.cell? ⟨g, k * 3 + 1, none⟩ = some (.string p.v) ∧ W.cell? ⟨g, k * 3 + 2, none⟩ = some (.bool p.b) ∧
      ∀ a b, OwnP ((W.setCell ⟨g, k * 3, none⟩ (.string a)).setCell ⟨g, k * 3 + 1, none⟩ (.string b)) B v (l.set k ⟨a, b, p.b⟩) := by
  have hk := (List.getElem?_eq_some_iff.1 hp).1
  rcases h.2 with ⟨_, h0⟩ | ⟨g, cap, cur, rfl, hBg, hg, hnc, hcm, hcs, htk⟩
  · omega
  · have hblk : Blk W g 44 cur := hg
    have hc : ∀ j u, (flatP l)[j]? = some u → W.cell? ⟨g, j, none⟩ = some u := by
      intro j u hj
      rw [← htk, List.getElem?_take] at hj
      split at hj
      · rw [hblk.cell j]; simpa using hj
      · cases hj
    have hat : ∀ j, j < 3 → (flatP l)[k * 3 + j]? = (pairV p)[j]? := by
      intro j hj
      rw [flatP_at, show (k * 3 + j) / 3 = k by omega, show (k * 3 + j) % 3 = j by omega, hp]; rfl
    refine ⟨g, cap, rfl, hBg, ⟨cur, hblk⟩, hc _ _ (hat 0 (by decide)), hc _ _ (hat 1 (by decide)), hc _ _ (hat 2 (by decide)), fun a b => ?_⟩
    refine ⟨by rw [flatP_len], .inr ⟨g, cap, (cur.setIfInBounds (k * 3) (.string a)).setIfInBounds (k * 3 + 1) (.string b), by rw [List.length_set], hBg, (hblk.set_ (k * 3) _).set_ (k * 3 + 1) _, by rw [List.length_set]; exact hnc, hcm, by simpa using hcs, ?_⟩⟩
    rw [List.length_set, flatP_set l k p a b hp, ← htk]
    simp only [Array.toList_setIfInBounds]
    rw [List.take_set, List.take_set]
theorem own_ne {W : World} {B : Nat} {v : Value} {l : List Pr} (h : OwnP W B v l) : ∃ a c, v = .slice a l.length c := own_slice h
theorem decV_eq (s : ByteArray) : decV s = .tuple #[.string (rOut s), .bool (decide (okS s))] := by
  by_cases h : okS s
  · rw [decV_ok h, decide_eq_true h]
  · rw [decV_no h, decide_eq_false h]
    unfold rOut
    rw [if_neg h]

def midP (l : List Pr) (k : Nat) : List Pr := (l.take k).map decP ++ l.drop k
theorem midP_len (l : List Pr) (k : Nat) (h : k ≤ l.length) : (midP l k).length = l.length := by
  unfold midP; rw [List.length_append, List.length_map, List.length_take, List.length_drop]; omega
theorem midP_at (l : List Pr) (k : Nat) (p : Pr) (hp : l[k]? = some p) : (midP l k)[k]? = some p := by
  have hk := (List.getElem?_eq_some_iff.1 hp).1
  unfold midP
  rw [List.getElem?_append_right (by rw [List.length_map, List.length_take]; omega), List.length_map, List.length_take, Nat.min_eq_left (by omega), Nat.sub_self, List.getElem?_drop]
  exact hp
theorem midP_succ (l : List Pr) (k : Nat) (p : Pr) (hp : l[k]? = some p) : (midP l k).set k (decP p) = midP l (k + 1) := by
  have hk := (List.getElem?_eq_some_iff.1 hp).1
  unfold midP
  rw [List.set_append_right _ _ (by rw [List.length_map, List.length_take]; omega), List.length_map, List.length_take, Nat.min_eq_left (by omega), Nat.sub_self,
    List.drop_eq_getElem_cons hk, List.set_cons_zero, List.take_add_one, hp]
  simp
theorem all_takeP (l : List Pr) (k : Nat) (p : Pr) (hp : l[k]? = some p) : (l.take (k + 1)).all okP = ((l.take k).all okP && okP p) := by
  rw [List.take_add_one, hp, List.all_append]; simp

set_option maxRecDepth 100000 in
set_option maxHeartbeats 4000000 in
theorem qdecoded (s : ByteArray) (hs : s.size ≤ 1000000) (w : World) (hm : MaxOk w) :
    Calls Tryd.prog 27 #[.string s] w (PairsPost w (decL s.data.toList) (decE s.data.toList)) := by
  have HM := Lib.hid hm
  clear hm
  go_enter Tryd.func27, Tryd.ntmps27
  go_wp2_with (fail)
  refine (qpairs s hs _ HM.out).mono ?_
  rintro e W1 ⟨v, rfl, hown, hb⟩
  by_cases hc : chkL s.data.toList = 0
  · rw [hc]
    have hq : pairsQ s.data.toList = pairsL s.data.toList := by unfold pairsQ; rw [if_pos hc]
    rw [hq] at hown
    obtain ⟨A, c, rfl⟩ := own_slice hown
    have HC := Lib.hid hc
    clear hc hq
    have hsz : ∀ p ∈ pairsL s.data.toList, p.n.size ≤ 1000000 ∧ p.v.size ≤ 1000000 := by
      intro p hp
      unfold pairsL at hp
      obtain ⟨x, hx, rfl⟩ := List.mem_map.1 hp
      have hl := splitL_le 38 _ x (List.mem_filter.1 hx).1
      rw [size_data] at hl
      unfold pairOf
      show (mkB (preL 61 x)).size ≤ _ ∧ (mkB (posL 61 x)).size ≤ _
      rw [mkB_size, mkB_size]
      by_cases hm : 61 ∈ x
      · have := congrArg List.length (pre_app hm).1
        rw [List.length_append, List.length_cons] at this
        omega
      · rw [(pre_none hm).1, (pre_none hm).2]; simp; omega
    have hln : (pairsL s.data.toList).length ≤ 1000001 := by
      unfold pairsL
      rw [List.length_map]
      have h1 := List.length_filter_le (fun p : List UInt8 => !p.isEmpty) (splitL 38 s.data.toList)
      have h2 := splitL_len 38 s.data.toList
      rw [size_data] at h2
      omega
    obtain ⟨l, hl⟩ : ∃ l, l = pairsL s.data.toList := ⟨_, rfl⟩
    rw [← hl] at hown hsz hln ⊢
    have HL := Lib.hid (And.intro hl hsz)
    have H0 := Lib.hid (And.intro hown hb)
    clear hl hsz hown hb
    obtain ⟨n, hn⟩ : ∃ n, n = l.length := ⟨_, rfl⟩
    rw [← hn] at hln
    rw [← hn]
    have HN := Lib.hid hn
    clear hn
    go_wp2_with (fail)
    go_loopw [21] (fun iv wr => ∃ k : Nat, k ≤ n ∧ iv = .int .i64 (k : Int) ∧ (l.take k).all okP = true ∧ OwnP wr w.heap.size (.slice A n c) (midP l k) ∧ Below w.heap.size w wr) (fun iv _ => n - (intOf iv).toNat)
    case atStart =>
      refine ⟨0, Nat.zero_le _, rfl, rfl, ?_, H0.out.2⟩
      rw [HN.out]
      exact H0.out.1
    case round =>
      obtain ⟨k, hk, rfl, hall, hown, hbel⟩ := hrel
      by_cases hlt : k < n
      · obtain ⟨p, hp⟩ : ∃ p, l[k]? = some p := ⟨_, List.getElem?_eq_getElem (by rw [← HN.out]; exact hlt)⟩
        obtain ⟨sz1, sz2⟩ := HL.out.2 p (List.mem_of_getElem? hp)
        obtain ⟨g, c', e, hBg, ⟨cur, hblk⟩, c0, c1, c2, hset⟩ := own_pair hown (midP_at l k p hp)
        injection e with e1 e2 e3
        subst e1
        clear e2 e3 c'
        have hz0 := hbel.size
        have hl0 := hblk.lt
        have f0 := hblk.frozen (k * 3)
        have f1 := hblk.frozen (k * 3 + 1)
        have A := Lib.hid (And.intro hall (And.intro hown (And.intro hbel (And.intro hp (And.intro hblk hset)))))
        clear hall hown hbel hp hblk hset
        obtain ⟨b1, hb1⟩ : ∃ b, b = decide (okS p.n) := ⟨_, rfl⟩
        obtain ⟨b2, hb2⟩ : ∃ b, b = decide (okS p.v) := ⟨_, rfl⟩
        have hok : okP p = (b1 && b2) := by rw [hb1, hb2]; rfl
        have HD := Lib.hid (And.intro hb1 (And.intro hb2 hok))
        clear hb1 hb2 hok
        go_wp2_with (fail)
        refine (qdecode p.n _ (by omega)).mono ?_
        rintro e X1 ⟨rfl, x1⟩
        rw [decV_eq, ← HD.out.1]
        have B1 := Lib.hid x1
        have d1 := (A.out.2.2.2.2.1.call x1)
        have d1' : X1.cell? ⟨g, k * 3 + 1, none⟩ = some (.string p.v) := by rw [x1.cell (p := ⟨g, k * 3 + 1, none⟩) hl0]; exact c1
        clear x1 d1
        go_wp2_with (fail)
        refine (qdecode p.v _ (by omega)).mono ?_
        rintro e X2 ⟨rfl, x2⟩
        rw [decV_eq, ← HD.out.2.1]
        have hB2 : Below wr.heap.size wr X2 := gr_call B1.out x2
        have k2 := A.out.2.2.2.2.1.call hB2
        have g0 := k2.frozen (k * 3)
        have g1 := k2.frozen (k * 3 + 1)
        have e0 : X2.cell? ⟨g, k * 3, none⟩ = some (.string p.n) := by rw [hB2.cell (p := ⟨g, k * 3, none⟩) hl0]; exact c0
        have e1 : X2.cell? ⟨g, k * 3 + 1, none⟩ = some (.string p.v) := by rw [hB2.cell (p := ⟨g, k * 3 + 1, none⟩) hl0]; exact c1
        have e2 : X2.cell? ⟨g, k * 3 + 2, none⟩ = some (.bool p.b) := by rw [hB2.cell (p := ⟨g, k * 3 + 2, none⟩) hl0]; exact c2
        have gl := k2.lt
        have B2 := Lib.hid (And.intro hB2 HD.out.2.2)
        clear x2 hB2 k2 d1' B1 HD
        have hbad : (b1 && b2) = false → decE s.data.toList = 3 ∧ decL s.data.toList = [] := by
          intro h
          refine decE_no HC.out ?_
          rw [← HL.out.1]
          cases e : l.all okP
          · rfl
          · have := List.all_eq_true.1 e p (List.mem_of_getElem? A.out.2.2.2.1)
            rw [B2.out.2, h] at this
            cases this
        have HB := Lib.hid hbad
        clear hbad
        cases b1
        · go_wp2_with (fail)
          go_ret2
          rw [(HB.out rfl).1, (HB.out rfl).2]
          exact ⟨_, rfl, World.ownsRow_nil _ _ _ _, gr_call A.out.2.2.1 B2.out.1⟩
        · cases b2
          · go_wp2_with (fail)
            go_ret2
            rw [(HB.out rfl).1, (HB.out rfl).2]
            exact ⟨_, rfl, World.ownsRow_nil _ _ _ _, gr_call A.out.2.2.1 B2.out.1⟩
          · go_wp2_with (fail)
            go_roundw
            case measure => simp [intOf]; omega
            case rel =>
              obtain ⟨hall, hown, hbel, hp, hblk, hset⟩ := A.out
              have ho2 := own_below hown B2.out.1 (Nat.le_refl _)
              obtain ⟨g', c', e, _, ⟨cur', hblk'⟩, _, _, _, hset'⟩ := own_pair ho2 (midP_at l k p hp)
              injection e with e1 e2 e3
              cases e1
              have hs := hset' (rOut p.n) (rOut p.v)
              rw [show (⟨rOut p.n, rOut p.v, p.b⟩ : Pr) = decP p from rfl, midP_succ l k p hp] at hs
              refine ⟨k + 1, by omega, rfl, ?_, hs, gr_set (gr_set (gr_call hbel B2.out.1) hBg _) hBg _⟩
              rw [all_takeP l k p hp, hall, B2.out.2]; rfl
      · have hkn : k = n := by omega
        subst hkn
        have A := Lib.hid (And.intro hall (And.intro hown hbel))
        clear hall hown hbel
        go_wp2_with (fail)
        go_ret2
        obtain ⟨hall, hown, hbel⟩ := A.out
        have ht : l.take k = l := List.take_of_length_le (by rw [HN.out]; exact Nat.le_refl _)
        rw [ht, HL.out.1] at hall
        obtain ⟨q1, q2⟩ := decE_ok HC.out hall
        rw [q1, q2, ← HL.out.1]
        refine ⟨_, rfl, ?_, hbel⟩
        have hmm : midP l k = l.map decP := by
          unfold midP
          rw [ht, List.drop_of_length_le (by rw [HN.out]; exact Nat.le_refl _), List.append_nil]
        unfold OwnP at hown
        rw [hmm] at hown
        exact hown
  · obtain ⟨q1, q2⟩ := decE_chk hc
    have HQ := Lib.hid (And.intro q1 q2)
    have hne : (chkL s.data.toList != 0) = true := by simpa using hc
    have HB := Lib.hid hb
    clear hc q1 q2 hown hb
    go_wp2_with (fail)
    go_ret2
    rw [HQ.out.1, HQ.out.2]
    exact ⟨_, rfl, World.ownsRow_nil _ _ _ _, HB.out⟩
end Go.Proofs.YtfbkbnojbbpopaaDoor
