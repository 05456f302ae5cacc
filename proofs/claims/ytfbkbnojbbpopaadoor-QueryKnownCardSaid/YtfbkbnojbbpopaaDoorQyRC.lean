/-
  The reference of queries, third part: Pairs, Decoded, Get; conditions: lengths.
-/
import Derived.Test.YtfbkbnojbbpopaaDoorQyRB
import Derived.Test.YtfbkbnojbbpopaaDoorQyM
namespace Go.Proofs.YtfbkbnojbbpopaaDoor
open Go.RowKit
set_option linter.unusedVariables false
set_option linter.unusedSimpArgs false

theorem pairsL_step (l : List UInt8) : pairsL l = (if preL 38 l = [] then [] else [pairOf (preL 38 l)]) ++ (if 38 ∈ l then pairsL (posL 38 l) else []) := by
  have key : ∀ (p : List UInt8) (r : List (List UInt8)), ((p :: r).filter (fun p => !p.isEmpty)).map pairOf = (if p = [] then [] else [pairOf p]) ++ (r.filter (fun p => !p.isEmpty)).map pairOf := by
    intro p r
    cases p with
    | nil => rw [if_pos rfl]; rfl
    | cons a t => rw [if_neg (by simp)]; rfl
  by_cases hm : 38 ∈ l
  · rw [if_pos hm]
    conv => lhs; unfold pairsL
    rw [splitL_pre hm, key]
    rfl
  · rw [if_neg hm, (pre_none hm).1]
    conv => lhs; unfold pairsL
    rw [splitL_none hm, key]
    rfl
def lenOf : Value → Nat
  | .string s => s.size
  | _ => 0
def boolOf : Value → Bool
  | .bool b => b
  | _ => false
def RPRel (s : ByteArray) (w0 : World) (qv ov mv : Value) (wr : World) : Prop :=
  ∃ (rest : List UInt8) (done : List Pr) (m : Bool), qv = .string (mkB rest) ∧ mv = .bool m ∧ rest.length ≤ s.size ∧ done.length + (if m then rest.length + 1 else 0) ≤ s.size + 1 ∧ pairsL s.data.toList = done ++ (if m then pairsL rest else []) ∧ OwnP wr w0.heap.size ov done ∧ Below w0.heap.size w0 wr

set_option maxRecDepth 100000 in
set_option maxHeartbeats 4000000 in
theorem rpairs (s : ByteArray) (hs : s.size ≤ 1000000) (w : World) :
    Calls Tryd.prog 29 #[.string s] w (PairsPost w (pairsQ s.data.toList) (chkL s.data.toList)) := by
  obtain ⟨i0, hi, hz0, hz1, hz2⟩ := info_parts infoPair
  go_enter Tryd.func29, Tryd.ntmps29
  go_wp2_with (fail)
  refine (rcheckQ s _ (by omega)).mono ?_
  rintro e W1 ⟨rfl, rfl⟩
  by_cases hc : chkL s.data.toList = 0
  · have hq : pairsQ s.data.toList = pairsL s.data.toList := by unfold pairsQ; rw [if_pos hc]
    have HC := Lib.hid (And.intro hc hq)
    rw [hc]
    clear hc hq
    go_wp2_with (fail)
    go_loopw [0, 5, 6] (fun qv ov mv wr => RPRel s W1 qv ov mv wr) (fun qv _ mv _ => if boolOf mv then lenOf qv + 1 else 0)
    case atStart => exact ⟨s.data.toList, [], true, by rw [mkB_of], rfl, by rw [size_data]; exact Nat.le_refl _, by simp [size_data], rfl, World.ownsRow_nil _ _ _ _, Below.refl _ _⟩
    case round =>
      obtain ⟨rest, done, m, rfl, rfl, hrl, hdl, hpr, hown, hbel⟩ := hrel
      cases m
      · rw [if_neg (by decide), List.append_nil] at hpr
        obtain ⟨va, vc, rfl⟩ := own_slice hown
        have A := Lib.hid (And.intro hpr (And.intro hown hbel))
        clear hpr hown hbel
        go_wp2_with (fail)
        first | rw [Exit.noGoto_ret] | skip
        go_ret2
        exact ⟨_, by rw [HC.out.1]; rfl, by rw [HC.out.2, A.out.1]; exact A.out.2.1, A.out.2.2⟩
      · rw [if_pos rfl] at hpr hdl
        rw [pairsL_step rest] at hpr
        obtain ⟨va, vc, rfl⟩ := own_slice hown
        obtain ⟨p, hp⟩ : ∃ p, p = preL 38 rest := ⟨_, rfl⟩
        obtain ⟨r, hr⟩ : ∃ r, r = posL 38 rest := ⟨_, rfl⟩
        obtain ⟨b, hb⟩ : ∃ b, b = decide (38 ∈ rest) := ⟨_, rfl⟩
        have hrs : r.length ≤ rest.length := by rw [hr]; exact pos_len 38 rest
        have hrb : b = true → r.length + 1 ≤ rest.length := by
          intro h
          rw [h] at hb
          rw [hr]
          exact posL_len (of_decide_eq_true hb.symm)
        have hps : p.length ≤ rest.length := by
          rw [hp]
          by_cases hm : 38 ∈ rest
          · have := congrArg List.length (pre_app hm).1
            rw [List.length_append] at this
            omega
          · rw [(pre_none hm).1]; exact Nat.le_refl _
        have hcv : cutV 38 (mkB rest) = .tuple #[.string (mkB p), .string (mkB r), .bool b] := by
          unfold cutV; rw [mkB_data, ← hp, ← hr, ← hb]
        have hpr2 : pairsL s.data.toList = done ++ ((if p = [] then [] else [pairOf p]) ++ (if b then pairsL r else [])) := by
          rw [hpr, ← hp, ← hr, hb]
          by_cases hm : 38 ∈ rest
          · rw [if_pos hm, decide_eq_true hm, if_pos rfl]
          · rw [if_neg hm, decide_eq_false hm]; simp
        have hrz : (mkB rest).size ≤ 1000000000 := by rw [mkB_size]; omega
        have hpz : (mkB p).size ≤ 1000000000 := by rw [mkB_size]; omega
        have hbz := hbel.size
        have A := Lib.hid (And.intro hpr2 (And.intro hbel (And.intro hcv hrb)))
        clear hpr hpr2 hbel hcv hp hr hb hrb
        have hcall : ∀ (u : ByteArray) (c : Nat) (cc : UInt8) (W : World), c = cc.toNat → u.size ≤ 1000000000 → Calls Tryd.prog 48 #[.string u, .int .u8 (c : Int)] W fun e w' => e = .returned (cutV cc u) ∧ Below W.heap.size W w' := by
          rintro u c cc W rfl h
          exact rcutQ u cc W h
        have HK := Lib.hid hcall
        clear hcall
        by_cases hpe : p = []
        · have HP := Lib.hid hpe
          subst hpe
          rw [show mkB ([] : List UInt8) = ⟨#[]⟩ from rfl] at A
          go_wp2_with (fail)
          refine (HK.out (mkB rest) 38 38 _ rfl hrz).mono ?_
          rintro e W2 ⟨rfl, h2⟩
          rw [A.out.2.2.1]
          have own2 := own_below hown h2 (Nat.le_refl _)
          have H2 := Lib.hid (And.intro own2 (gr_call A.out.2.1 h2))
          clear own2 h2 hown
          go_wp2_with (fail)
          go_roundw
          case rel =>
            refine ⟨r, done, b, rfl, rfl, by omega, ?_, ?_, H2.out.1, H2.out.2⟩
            · cases b
              · simp; omega
              · have := A.out.2.2.2 rfl; simp; omega
            · rw [A.out.1]; simp
          case measure =>
            have e1 : lenOf (Value.string (mkB rest)) = rest.length := mkB_size _
            have e2 : lenOf (Value.string (mkB r)) = r.length := mkB_size _
            rw [e1, e2]
            cases b
            · simp [boolOf]
            · have := A.out.2.2.2 rfl; simp [boolOf]; omega
        · have hne := nonempty_b (mkB p) (by rw [mkB_size]; exact List.length_pos_iff.2 hpe)
          have HP := Lib.hid hpe
          clear hpe
          go_wp2_with (fail)
          refine (HK.out (mkB rest) 38 38 _ rfl hrz).mono ?_
          rintro e W2 ⟨rfl, h2⟩
          rw [A.out.2.2.1]
          have own2 := own_below hown h2 (Nat.le_refl _)
          have hB2 := gr_call A.out.2.1 h2
          clear h2 hown
          go_wp2_with (fail)
          refine (HK.out (mkB p) 61 61 _ rfl hpz).mono ?_
          rintro e W3 ⟨rfl, h3⟩
          have own3 := own_below own2 h3 (Nat.le_refl _)
          have hB3 := gr_call hB2 h3
          have hz3 := hB3.size
          obtain ⟨x, hx⟩ : ∃ x, x = pairOf p := ⟨_, rfl⟩
          have hcx : cutV 61 (mkB p) = .tuple #[.string x.n, .string x.v, .bool (!x.b)] := by
            rw [hx]; unfold cutV pairOf; rw [mkB_data]; simp
          rw [hcx]
          have HX := Lib.hid (And.intro hx hB3)
          clear h3 own2 hB2 hB3 hx hcx
          go_wp2_with (at_builtin; refine wpList_append_own _ rfl _ _ 26 rfl W1.heap.size 44 i0 _ 3 40 Tryd.underlying26 hi hz0 hz1 hz2 rfl (by decide) _ _ _ rfl (own3.alloc _) ⟨W3.heap.size, 0, none⟩ 1 1 [.string x.n, .string x.v, .bool x.b] rfl rfl ?c1 ?c2 ?c3 ?c4 ?c5 ?_)
          case c1 => exact pair_new rfl _ _ _ _
          case c2 => exact pair_cells _ _ _
          case c3 => unfold maxLen; omega
          case c4 => omega
          case c5 => simp; omega
          intro v' W4 hown' hgrow _
          obtain ⟨vb, vd, rfl⟩ := own_slice hown'
          have W := Lib.hid (And.intro hown' (And.intro hgrow own3))
          clear hown' hgrow own3
          go_wp2_with (fail)
          go_roundw
          case rel =>
            obtain ⟨hown', hgrow, own3⟩ := W.out
            refine ⟨r, done ++ [x], b, rfl, rfl, by omega, ?_, ?_, ?_, ?_⟩
            · rw [List.length_append, List.length_singleton]
              cases b
              · simp; omega
              · have := A.out.2.2.2 rfl; simp; omega
            · rw [A.out.1, if_neg HP.out, HX.out.1, List.append_assoc]
            · unfold OwnP
              rw [flatP_snoc, List.length_append, List.length_singleton]
              exact hown'
            · exact (gr_alloc HX.out.2 (.cells #[.string x.n, .string x.v, .bool x.b] 44)).grown hgrow (gr_alloc HX.out.2 _).size (fun q hq => (own3.lt q hq).1)
          case measure =>
            have e1 : lenOf (Value.string (mkB rest)) = rest.length := mkB_size _
            have e2 : lenOf (Value.string (mkB r)) = r.length := mkB_size _
            rw [e1, e2]
            cases b
            · simp [boolOf]
            · have := A.out.2.2.2 rfl; simp [boolOf]; omega
  · have hq : pairsQ s.data.toList = [] := by unfold pairsQ; rw [if_neg hc]
    have HQ := Lib.hid hq
    have hne : (chkL s.data.toList != 0) = true := by simpa using hc
    clear hc hq
    go_wp2_with (fail)
    go_ret2
    exact ⟨_, rfl, by rw [HQ.out]; exact World.ownsRow_nil _ _ _ _, Below.refl _ _⟩

theorem flatP_set1 (l : List Pr) (k : Nat) (p : Pr) (a : ByteArray) (hp : l[k]? = some p) : flatP (l.set k ⟨a, p.v, p.b⟩) = (flatP l).set (k * 3) (.string a) := by
  have hk := (List.getElem?_eq_some_iff.1 hp).1
  apply List.ext_getElem?
  intro i
  rw [flatP_at, List.getElem?_set, List.getElem?_set, flatP_at]
  have hlen := flatP_len l
  by_cases h : k = i / 3
  · rw [if_pos h, if_pos hk, ← h, hp]
    have h3 : i % 3 = 0 ∨ i % 3 = 1 ∨ i % 3 = 2 := by omega
    rcases h3 with h3 | h3 | h3
    · rw [if_pos (by omega), if_pos (by omega), h3]; rfl
    · rw [if_neg (by omega), h3]; rfl
    · rw [if_neg (by omega), h3]; rfl
  · rw [if_neg h, if_neg (by omega)]
theorem flatP_set2 (l : List Pr) (k : Nat) (p : Pr) (a : ByteArray) (hp : l[k]? = some p) : flatP (l.set k ⟨p.n, a, p.b⟩) = (flatP l).set (k * 3 + 1) (.string a) := by
  have hk := (List.getElem?_eq_some_iff.1 hp).1
  apply List.ext_getElem?
  intro i
  rw [flatP_at, List.getElem?_set, List.getElem?_set, flatP_at]
  have hlen := flatP_len l
  by_cases h : k = i / 3
  · rw [if_pos h, if_pos hk, ← h, hp]
    have h3 : i % 3 = 0 ∨ i % 3 = 1 ∨ i % 3 = 2 := by omega
    rcases h3 with h3 | h3 | h3
    · rw [if_neg (by omega), h3]; rfl
    · rw [if_pos (by omega), if_pos (by omega), h3]; rfl
    · rw [if_neg (by omega), h3]; rfl
  · rw [if_neg h, if_neg (by omega)]
theorem own_pair1 {W : World} {B : Nat} {A : Option Addr} {n c : Nat} {l : List Pr} (h : OwnP W B (.slice A n c) l) {k : Nat} {p : Pr} (hp : l[k]? = some p) :
    ∃ g, A = some ⟨g, 0, none⟩ ∧ B ≤ g ∧ (∃ cur, Blk W g 44 cur) ∧ W.cell? ⟨g, k * 3, none⟩ = some (.string p.n) ∧ W.cell? ⟨g, k * 3 + 1, none⟩ = some (.string p.v) ∧
      (∀ a, OwnP (W.setCell ⟨g, k * 3, none⟩ (.string a)) B (.slice A n c) (l.set k ⟨a, p.v, p.b⟩)) ∧ ∀ a, OwnP (W.setCell ⟨g, k * 3 + 1, none⟩ (.string a)) B (.slice A n c) (l.set k ⟨p.n, a, p.b⟩) := by
  obtain ⟨g, c', e, hB, ⟨cur0, hblk0⟩, c0, c1, _, _⟩ := own_pair h hp
  rcases h.2 with ⟨_, h0⟩ | ⟨g', cap, cur, e', hBg, hg, hnc, hcm, hcs, htk⟩
  · have := (List.getElem?_eq_some_iff.1 hp).1; omega
  · injection e with e1 e2 e3
    subst e1
    injection e' with f1 f2 f3
    cases f1
    subst e2 f3
    have hblk : Blk W g 44 cur := hg
    refine ⟨g, rfl, hB, ⟨cur, hblk⟩, c0, c1, fun a => ?_, fun a => ?_⟩
    · refine ⟨by rw [flatP_len], .inr ⟨g, c, cur.setIfInBounds (k * 3) (.string a), by rw [List.length_set], hBg, hblk.set_ (k * 3) _, by rw [List.length_set]; exact hnc, hcm, by simpa using hcs, ?_⟩⟩
      rw [List.length_set, flatP_set1 l k p a hp, ← htk]
      simp only [Array.toList_setIfInBounds]
      rw [List.take_set]
    · refine ⟨by rw [flatP_len], .inr ⟨g, c, cur.setIfInBounds (k * 3 + 1) (.string a), by rw [List.length_set], hBg, hblk.set_ (k * 3 + 1) _, by rw [List.length_set]; exact hnc, hcm, by simpa using hcs, ?_⟩⟩
      rw [List.length_set, flatP_set2 l k p a hp, ← htk]
      simp only [Array.toList_setIfInBounds]
      rw [List.take_set]

set_option maxRecDepth 100000 in
set_option maxHeartbeats 4000000 in
theorem rdecoded (s : ByteArray) (hs : s.size ≤ 1000000) (w : World) :
    Calls Tryd.prog 30 #[.string s] w (PairsPost w (decL s.data.toList) (decE s.data.toList)) := by
  go_enter Tryd.func30, Tryd.ntmps30
  go_wp2_with (fail)
  refine (rpairs s hs _).mono ?_
  rintro e W1 ⟨v, rfl, hown, hb⟩
  by_cases hc : chkL s.data.toList = 0
  · rw [hc]
    have hq : pairsQ s.data.toList = pairsL s.data.toList := by unfold pairsQ; rw [if_pos hc]
    rw [hq] at hown
    obtain ⟨A, c, rfl⟩ := own_slice hown
    have HC := Lib.hid hc
    clear hc hq
    have hsz : ∀ p ∈ pairsL s.data.toList, p.n.size ≤ 1000000 ∧ p.v.size ≤ 1000000 := by
      intro p hp
      unfold pairsL at hp
      obtain ⟨x, hx, rfl⟩ := List.mem_map.1 hp
      have hl := splitL_le 38 _ x (List.mem_filter.1 hx).1
      rw [size_data] at hl
      unfold pairOf
      show (mkB (preL 61 x)).size ≤ _ ∧ (mkB (posL 61 x)).size ≤ _
      rw [mkB_size, mkB_size]
      by_cases hm : 61 ∈ x
      · have := congrArg List.length (pre_app hm).1
        rw [List.length_append, List.length_cons] at this
        omega
      · rw [(pre_none hm).1, (pre_none hm).2]; simp; omega
    have hln : (pairsL s.data.toList).length ≤ 1000001 := by
      unfold pairsL
      rw [List.length_map]
      have h1 := List.length_filter_le (fun p : List UInt8 => !p.isEmpty) (splitL 38 s.data.toList)
      have h2 := splitL_len 38 s.data.toList
      rw [size_data] at h2
      omega
    have hokall := okP_all s.data.toList
    obtain ⟨l, hl⟩ : ∃ l, l = pairsL s.data.toList := ⟨_, rfl⟩
    rw [← hl] at hown hsz hln hokall ⊢
    obtain ⟨n, hn⟩ : ∃ n, n = l.length := ⟨_, rfl⟩
    rw [← hn] at hln
    have HL := Lib.hid (And.intro hl (And.intro hsz (And.intro hokall hn)))
    have H0 := Lib.hid (And.intro hown hb)
    rw [← hn]
    clear hl hsz hown hb hn hokall
    go_wp2_with (fail)
    refine (rdecode s _ (by omega)).mono ?_
    rintro e W2 ⟨rfl, h2⟩
    have ownZ := own_below H0.out.1 h2 (Nat.le_refl _)
    have hbZ := gr_call H0.out.2 h2
    have HZ := Lib.hid (And.intro ownZ hbZ)
    clear ownZ hbZ h2
    by_cases ho : okS s
    · rw [(rOk ho).1, (rOk ho).2.1]
      have hall : l.all okP = true := by rw [HL.out.2.2.1]; exact decide_eq_true (okS_L.1 ho)
      have HA := Lib.hid hall
      clear ho hall
      go_wp2_with (fail)
      go_loopw [8] (fun iv wr => ∃ k : Nat, k ≤ n ∧ iv = .int .i64 (k : Int) ∧ OwnP wr w.heap.size (.slice A n c) (midP l k) ∧ Below w.heap.size w wr) (fun iv _ => n - (intOf iv).toNat)
      case atStart =>
        refine ⟨0, Nat.zero_le _, rfl, ?_, gr_alloc HZ.out.2 _⟩
        have := HZ.out.1
        rw [← HL.out.2.2.2] at this
        unfold OwnP midP
        rw [List.take_zero, List.map_nil, List.nil_append, List.drop_zero, ← HL.out.2.2.2]
        exact this.alloc _
      case round =>
        obtain ⟨k, hk, rfl, hown, hbel⟩ := hrel
        by_cases hlt : k < n
        · obtain ⟨p, hp⟩ : ∃ p, l[k]? = some p := ⟨_, List.getElem?_eq_getElem (by rw [← HL.out.2.2.2]; exact hlt)⟩
          obtain ⟨sz1, sz2⟩ := HL.out.2.1 p (List.mem_of_getElem? hp)
          obtain ⟨g, rfl, hBg, ⟨cur, hblk⟩, c0, c1, _, _⟩ := own_pair1 hown (midP_at l k p hp)
          have hl0 := hblk.lt
          have hz0 := hbel.size
          have A := Lib.hid (And.intro hown (And.intro hbel (And.intro hp hblk)))
          clear hown hbel hp hblk c1
          go_wp2_with (fail)
          refine (rdecode p.n _ (by omega)).mono ?_
          rintro e X1 ⟨rfl, x1⟩
          have o1 := own_below A.out.1 x1 (Nat.le_refl _)
          obtain ⟨g1, e1, _, ⟨cur1, hblk1⟩, d0, _, hs1, _⟩ := own_pair1 o1 (midP_at l k p A.out.2.2.1)
          cases e1
          have f0 := hblk1.frozen (k * 3)
          have gl1 := hblk1.lt
          have hb1 := gr_call A.out.2.1 x1
          obtain ⟨Y, hY⟩ : ∃ Y, Y = X1.setCell ⟨g, k * 3, none⟩ (.string (rOut p.n)) := ⟨_, rfl⟩
          have oY : OwnP Y w.heap.size (.slice (some ⟨g, 0, none⟩) n c) ((midP l k).set k ⟨rOut p.n, p.v, p.b⟩) := by rw [hY]; exact hs1 (rOut p.n)
          have bY : Below w.heap.size w Y := by rw [hY]; exact gr_set hb1 hBg _
          have hmid := midP_at l k p A.out.2.2.1
          have hpk : ((midP l k).set k ⟨rOut p.n, p.v, p.b⟩)[k]? = some ⟨rOut p.n, p.v, p.b⟩ := by
            rw [List.getElem?_set, if_pos rfl, if_pos (List.getElem?_eq_some_iff.1 hmid).1]
          obtain ⟨g2, e2, _, ⟨cur2, hblk2⟩, _, k1, _, _⟩ := own_pair1 oY hpk
          cases e2
          have kl := hblk2.lt
          have HYd := Lib.hid (And.intro hY (And.intro oY (And.intro bY hpk)))
          clear x1 o1 hs1 hb1 hY oY bY hblk1 hblk2 hpk c0 hmid
          go_wp2_with (fail)
          rw [← HYd.out.1]
          go_wp2_with (fail)
          refine (rdecode p.v _ (by omega)).mono ?_
          rintro e X3 ⟨rfl, x3⟩
          have o3 := own_below HYd.out.2.1 x3 (Nat.le_refl _)
          obtain ⟨g3, e3, _, ⟨cur3, hblk3⟩, _, _, _, hs3⟩ := own_pair1 o3 HYd.out.2.2.2
          cases e3
          have f3 := hblk3.frozen (k * 3 + 1)
          have gl3 := hblk3.lt
          have hb3 := gr_call HYd.out.2.2.1 x3
          have m3 := hs3 (rOut p.v)
          rw [List.set_set, show (⟨rOut p.n, rOut p.v, p.b⟩ : Pr) = decP p from rfl, midP_succ l k p A.out.2.2.1] at m3
          have F := Lib.hid (And.intro m3 (gr_set hb3 (p := ⟨g, k * 3 + 1, none⟩) hBg (.string (rOut p.v))))
          clear x3 o3 hs3 hb3 m3 hblk3
          go_wp2_with (fail)
          go_roundw
          case rel => exact ⟨k + 1, by omega, rfl, F.out.1, F.out.2⟩
          case measure => simp [intOf]; omega
        · have hkn : k = n := by omega
          subst hkn
          have A := Lib.hid (And.intro hown hbel)
          clear hown hbel
          go_wp2_with (fail)
          go_ret2
          obtain ⟨hown, hbel⟩ := A.out
          have hall := HA.out
          rw [HL.out.1] at hall
          obtain ⟨q1, q2⟩ := decE_ok HC.out hall
          rw [q1, q2, ← HL.out.1]
          refine ⟨_, rfl, ?_, hbel⟩
          have hmm : midP l k = l.map decP := by
            unfold midP
            rw [List.take_of_length_le (by rw [HL.out.2.2.2]; exact Nat.le_refl _), List.drop_of_length_le (by rw [HL.out.2.2.2]; exact Nat.le_refl _), List.append_nil]
          unfold OwnP at hown
          rw [hmm] at hown
          exact hown
    · rw [(rNo ho).1]
      have hno : (pairsL s.data.toList).all okP = false := by rw [← HL.out.1, HL.out.2.2.1]; exact decide_eq_false (fun h => ho (okS_L.2 h))
      have HQ := Lib.hid (decE_no HC.out hno)
      clear ho hno
      go_wp2_with (fail)
      go_ret2
      rw [HQ.out.1, HQ.out.2]
      exact ⟨_, rfl, World.ownsRow_nil _ _ _ _, gr_alloc HZ.out.2 _⟩
  · obtain ⟨q1, q2⟩ := decE_chk hc
    have HQ := Lib.hid (And.intro q1 q2)
    have hne : (chkL s.data.toList != 0) = true := by simpa using hc
    have HB := Lib.hid hb
    clear hc q1 q2 hown hb
    go_wp2_with (fail)
    go_ret2
    rw [HQ.out.1, HQ.out.2]
    exact ⟨_, rfl, World.ownsRow_nil _ _ _ _, HB.out⟩

set_option maxRecDepth 100000 in
set_option maxHeartbeats 2000000 in
theorem rget (s x : ByteArray) (hs : s.size ≤ 1000000) (w : World) :
    Calls Tryd.prog 32 #[.string s, .string x] w fun e W' => e = .returned (.tuple #[.string (getV s.data.toList x), .int .i64 (getE s.data.toList x)]) ∧ Below w.heap.size w W' := by
  go_enter Tryd.func32, Tryd.ntmps32
  go_wp2_with (fail)
  refine (rdecoded s hs _).mono ?_
  rintro e W1 ⟨v, rfl, hown, h1⟩
  by_cases hc : decE s.data.toList = 0
  · rw [hc]
    have hln : (decL s.data.toList).length ≤ 1000001 := by
      rw [(decE_ok (decE_zero hc).1 (decE_zero hc).2).2, List.length_map]
      unfold pairsL
      rw [List.length_map]
      have h1 := List.length_filter_le (fun p : List UInt8 => !p.isEmpty) (splitL 38 s.data.toList)
      have h2 := splitL_len 38 s.data.toList
      rw [size_data] at h2
      omega
    obtain ⟨A, c, rfl, hcl, _⟩ := own_cellsP hown
    have hv : getV s.data.toList x = (match findP x (decL s.data.toList) with | none => mkB [] | some v => v) ∧ getE s.data.toList x = (match findP x (decL s.data.toList) with | none => 6 | some _ => 0) := by
      unfold getV getE; rw [if_pos hc, if_pos hc]; exact ⟨rfl, rfl⟩
    obtain ⟨l, hl⟩ : ∃ l, l = decL s.data.toList := ⟨_, rfl⟩
    rw [← hl] at hln hcl hv ⊢
    obtain ⟨n, hn⟩ : ∃ n, n = l.length := ⟨_, rfl⟩
    have B := Lib.hid (And.intro h1 (And.intro hcl (And.intro hn hv)))
    rw [← hn] at hln ⊢
    clear hc hown h1 hcl hv hl hn
    go_wp2_with (fail)
    go_loopw [8] (fun iv wr => (∃ k : Nat, k ≤ n ∧ iv = .int .i64 (k : Int) ∧ findP x l = findP x (l.drop k)) ∧ wr = W1) (fun iv _ => n - (intOf iv).toNat)
    case atStart => exact ⟨⟨0, Nat.zero_le _, rfl, rfl⟩, rfl⟩
    case round =>
      obtain ⟨⟨k, hk, rfl, hf⟩, rfl⟩ := hrel
      by_cases hlt' : k < n
      · obtain ⟨p, hp⟩ : ∃ p, l[k]? = some p := ⟨_, List.getElem?_eq_getElem (by rw [← B.out.2.2.1]; exact hlt')⟩
        obtain ⟨ab, ao, rfl, hab, c0, c1, c2⟩ := cells_pair B.out.2.1 hp
        have hst := findP_step (x := x) hp
        have F := Lib.hid (And.intro hf hst)
        have es := str_beq p.n x
        clear hf hp hst
        by_cases hx : p.n = x
        · rw [decide_eq_true hx] at es
          have HX := Lib.hid hx
          clear hx
          go_wp2_with (fail)
          go_ret2
          rw [B.out.2.2.2.1, B.out.2.2.2.2, F.out.1, F.out.2, if_pos HX.out]
          exact ⟨rfl, B.out.1⟩
        · rw [decide_eq_false hx] at es
          have HX := Lib.hid hx
          clear hx
          go_wp2_with (fail)
          go_roundw
          case rel => exact ⟨⟨k + 1, by omega, rfl, by rw [F.out.1, F.out.2, if_neg HX.out]⟩, trivial⟩
          case measure => simp [intOf]; omega
      · have F := Lib.hid hf
        clear hf
        go_wp2_with (fail)
        go_ret2
        rw [B.out.2.2.2.1, B.out.2.2.2.2, F.out, List.drop_of_length_le (by rw [← B.out.2.2.1]; omega)]
        exact ⟨rfl, B.out.1⟩
  · have hne : (decE s.data.toList != 0) = true := by simpa using hc
    have hv : getV s.data.toList x = mkB [] ∧ getE s.data.toList x = decE s.data.toList := by
      unfold getV getE; rw [if_neg hc, if_neg hc]; exact ⟨rfl, rfl⟩
    have B := Lib.hid (And.intro h1 hv)
    clear hc hown h1 hv
    go_wp2_with (fail)
    go_ret2
    rw [B.out.2.1, B.out.2.2]
    exact ⟨rfl, B.out.1⟩
end Go.Proofs.YtfbkbnojbbpopaaDoor
