/-
  The reference of queries, fourth part: Join, Append, Canonical; conditions: lengths.
-/
import Derived.Test.YtfbkbnojbbpopaaDoorQyRC
import Derived.Test.YtfbkbnojbbpopaaDoorQyO
namespace Go.Proofs.YtfbkbnojbbpopaaDoor
open Go.RowKit
set_option linter.unusedVariables false
set_option linter.unusedSimpArgs false

/-- A query before and behind one more pair. -/
def amp (k : Nat) (o : List UInt8) : List UInt8 := if k = 0 then o else o ++ [38]
theorem joinL_take (l : List Pr) (k : Nat) (p : Pr) (hp : l[k]? = some p) : joinL (l.take (k + 1)) = amp k (joinL (l.take k)) ++ partL p := by
  have hk := (List.getElem?_eq_some_iff.1 hp).1
  rw [List.take_add_one, hp]
  unfold amp
  by_cases h : k = 0
  · subst h; rw [if_pos rfl]; simp [joinL_nil, joinL_one]
  · rw [if_neg h]
    show joinL (l.take k ++ [p]) = _
    rw [joinL_snoc _ _ (by intro e; have := congrArg List.length e; rw [List.length_take] at this; have h2 : min k l.length = 0 := this; omega)]
    simp
theorem amp_len (k : Nat) (o : List UInt8) : (amp k o).length ≤ o.length + 1 := by unfold amp; split <;> simp

set_option maxRecDepth 100000 in
set_option maxHeartbeats 4000000 in
theorem rjoin (l : List Pr) (hl : l.length ≤ 1000001) (hsz : ∀ p ∈ l, p.n.size ≤ 1000000 ∧ p.v.size ≤ 1000000) (A : Option Addr) (c : Nat) (w : World) (hA : Cells w A 3 l.length (prAt l)) :
    Calls Tryd.prog 25 #[.slice A l.length c] w (JoinPost w l) := by
  obtain ⟨n, hn⟩ : ∃ n, n = l.length := ⟨_, rfl⟩
  have HA := Lib.hid (And.intro hA (And.intro hn hsz))
  rw [← hn] at hl ⊢
  clear hA hn hsz
  go_enter Tryd.func25, Tryd.ntmps25
  go_wp2_with (fail)
  go_loopw [4, 5] (fun ov iv wr => ∃ k : Nat, k ≤ n ∧ iv = .int .i64 (k : Int) ∧ (l.take k).any badP = false ∧ ov = .string (mkB (joinL (l.take k))) ∧ Below w.heap.size w wr) (fun _ iv _ => n - (intOf iv).toNat)
  case atStart => exact ⟨0, Nat.zero_le _, rfl, rfl, rfl, Below.refl _ _⟩
  case round =>
    obtain ⟨k, hk, rfl, hbad, rfl, hbel⟩ := hrel
    by_cases hlt : k < n
    · obtain ⟨p, hp⟩ : ∃ p, l[k]? = some p := ⟨_, List.getElem?_eq_getElem (by rw [← HA.out.2.1]; exact hlt)⟩
      obtain ⟨sz1, sz2⟩ := HA.out.2.2 p (List.mem_of_getElem? hp)
      obtain ⟨ab, ao, rfl, hab, c0, c1, c2⟩ := cells_pair (HA.out.1.below hbel) hp
      have hbz := hbel.size
      have hbd := any_take l k p hp
      have hpv := joinL_take l k p hp
      have hjl := join_len (l.take k) (fun q hq => HA.out.2.2 q (List.mem_of_mem_take hq))
      rw [List.length_take] at hjl
      have hjl2 : (joinL (l.take k)).length ≤ 6000008000002 := by omega
      obtain ⟨o, ho⟩ : ∃ o, o = joinL (l.take k) := ⟨_, rfl⟩
      rw [← ho] at hpv hjl2 ⊢
      have X0 := Blk.new wr 44 #[.string p.n, .string p.v, .bool p.b]
      have Y0 := gr_alloc hbel (.cells #[.string p.n, .string p.v, .bool p.b] 44)
      have e1 := empty_dec p.n
      have e2 := empty_dec p.v
      have hal := amp_len k o
      have B := Lib.hid (And.intro hbad (And.intro hbel (And.intro hp (And.intro hbd (And.intro hpv (And.intro X0 Y0))))))
      clear hbad hbel hp hbd hpv X0 Y0 hjl ho
      obtain ⟨a, ha⟩ : ∃ a, a = amp k o := ⟨_, rfl⟩
      have hs0 : (mkB o).size ≤ 7000000000000 := by rw [mkB_size]; omega
      have hsa : (mkB a).size ≤ 7000000000001 := by rw [mkB_size, ha]; omega
      have hs1 : (mkB (encQ p.n.data.toList)).size ≤ 3000000 := by have := encQ_len p.n.data.toList; rw [size_data] at this; rw [mkB_size]; omega
      have hs2 : (mkB (encQ p.v.data.toList)).size ≤ 3000000 := by have := encQ_len p.v.data.toList; rw [size_data] at this; rw [mkB_size]; omega
      have z1 : (encQ p.n.data.toList).length ≤ 3000000 := by rw [← mkB_size]; exact hs1
      have za : a.length ≤ 7000000000001 := by rw [← mkB_size]; exact hsa
      have k1 : mkB a ++ mkB (encQ p.n.data.toList) = mkB (a ++ encQ p.n.data.toList) := mkB_append _ _
      have n1 : (mkB (a ++ encQ p.n.data.toList)).size ≤ 8000000000000 := by rw [mkB_size, List.length_append]; omega
      have k2 : mkB (a ++ encQ p.n.data.toList) ++ (⟨#[61]⟩ : ByteArray) = mkB (a ++ (encQ p.n.data.toList ++ [61])) := by rw [← List.append_assoc]; exact mkB_append _ [61]
      have n2 : (mkB (a ++ (encQ p.n.data.toList ++ [61]))).size ≤ 8000000000001 := by rw [mkB_size, List.length_append, List.length_append, List.length_singleton]; omega
      have k3 : mkB (a ++ (encQ p.n.data.toList ++ [61])) ++ mkB (encQ p.v.data.toList) = mkB (a ++ (encQ p.n.data.toList ++ 61 :: encQ p.v.data.toList)) := by rw [mkB_append]; simp
      obtain ⟨b, hb⟩ : ∃ b, b = p.b := ⟨_, rfl⟩
      have hamp : (¬ (0 : Int) < (k : Int) ∧ a = o) ∨ ((0 : Int) < (k : Int) ∧ mkB o ++ (⟨#[38]⟩ : ByteArray) = mkB a) := by
        by_cases h0 : k = 0
        · exact .inl ⟨by omega, by rw [ha]; unfold amp; rw [if_pos h0]⟩
        · refine .inr ⟨by omega, ?_⟩
          rw [ha]; unfold amp; rw [if_neg h0]; exact mkB_append o [38]
      have HAm := Lib.hid ha
      clear ha hal
      cases b
      · have hgood : badP p = false := by unfold badP; rw [← hb]; rfl
        have hpart : partL p = encQ p.n.data.toList ++ 61 :: encQ p.v.data.toList := by unfold partL; rw [← hb]; rfl
        rw [← hb] at c2
        have HG := Lib.hid (And.intro hgood (And.intro hpart hb))
        clear hgood hpart hb e1 e2
        rcases hamp with ⟨h0, rfl⟩ | ⟨h0, hcat⟩
        all_goals
          go_wp2_with (fail)
          refine (rencodeQ p.n (by omega) _).mono ?_
          rintro e W1 ⟨rfl, h1⟩
          rw [HG.out.2.2] at h1
          have x1 := B.out.2.2.2.2.2.1.call h1
          rw [← HG.out.2.2] at x1
          have d0 := x1.cell' (i := 0) rfl
          have d1 := x1.cell' (i := 1) rfl
          have d2 := x1.cell' (i := 2) rfl
          have xl := x1.lt
          have H1 := Lib.hid (gr_call B.out.2.2.2.2.2.2 h1)
          clear h1 x1
          go_wp2_with (fail)
          refine (rencodeQ p.v (by omega) _).mono ?_
          rintro e W2 ⟨rfl, h2⟩
          have H2 := Lib.hid (gr_call H1.out h2)
          clear h2 d0 d1 d2
          go_wp2_with (fail)
          go_roundw
          case measure => simp [intOf]; omega
          case rel =>
            refine ⟨k + 1, by omega, rfl, by rw [B.out.2.2.2.1, B.out.1, HG.out.1]; rfl, ?_, H2.out⟩
            rw [B.out.2.2.2.2.1, ← HAm.out, HG.out.2.1]
      · have hpart : partL p = encQ p.n.data.toList := by unfold partL; rw [← hb]; simp
        rw [← hb] at c2
        have hbad2 : badP p = (decide (p.n.size = 0) || !decide (p.v.size = 0)) := by unfold badP; rw [← hb]; rfl
        have HP := Lib.hid (And.intro hpart (And.intro hbad2 hb))
        clear hpart hbad2 hb
        by_cases hn0 : p.n.size = 0
        · rw [decide_eq_true hn0] at e1
          have hb1 : badP p = true := by rw [HP.out.2.1, decide_eq_true hn0]; rfl
          have HJ := Lib.hid (joinE_bad B.out.2.2.1 hb1)
          clear hn0 e2 hb1 hamp
          go_wp2_with (fail)
          go_ret2
          exact ⟨by rw [HJ.out.1, HJ.out.2]; rfl, gr_alloc B.out.2.1 _⟩
        · rw [decide_eq_false hn0] at e1
          by_cases hv0 : p.v.size = 0
          · rw [decide_eq_true hv0] at e2
            have hgood : badP p = false := by rw [HP.out.2.1, decide_eq_false hn0, decide_eq_true hv0]; rfl
            have HG := Lib.hid (And.intro hgood (And.intro HP.out.1 HP.out.2.2))
            clear hn0 hv0 hgood
            rcases hamp with ⟨h0, rfl⟩ | ⟨h0, hcat⟩
            all_goals
              go_wp2_with (fail)
              refine (rencodeQ p.n (by omega) _).mono ?_
              rintro e W1 ⟨rfl, h1⟩
              rw [HG.out.2.2] at h1
              have x1 := B.out.2.2.2.2.2.1.call h1
              rw [← HG.out.2.2] at x1
              have d0 := x1.cell' (i := 0) rfl
              have d1 := x1.cell' (i := 1) rfl
              have d2 := x1.cell' (i := 2) rfl
              have xl := x1.lt
              have H1 := Lib.hid (gr_call B.out.2.2.2.2.2.2 h1)
              clear h1 x1
              go_wp2_with (fail)
              go_roundw
              case measure => simp [intOf]; omega
              case rel =>
                refine ⟨k + 1, by omega, rfl, by rw [B.out.2.2.2.1, B.out.1, HG.out.1]; rfl, ?_, H1.out⟩
                rw [B.out.2.2.2.2.1, ← HAm.out, HG.out.2.1]
          · rw [decide_eq_false hv0] at e2
            have hb1 : badP p = true := by rw [HP.out.2.1, decide_eq_false hn0, decide_eq_false hv0]; rfl
            have HJ := Lib.hid (joinE_bad B.out.2.2.1 hb1)
            clear hn0 hv0 hb1 hamp
            go_wp2_with (fail)
            go_ret2
            exact ⟨by rw [HJ.out.1, HJ.out.2]; rfl, gr_alloc B.out.2.1 _⟩
    · have hkn : k = n := by omega
      subst hkn
      have ht : l.take k = l := List.take_of_length_le (by rw [HA.out.2.1]; exact Nat.le_refl _)
      rw [ht] at hbad ⊢
      have hJ : joinE l = (if 128 < (joinL l).length then 4 else 0) := by unfold joinE; rw [if_neg (by rw [hbad]; decide)]
      have hjs : (mkB (joinL l)).size = (joinL l).length := mkB_size _
      have B := Lib.hid (And.intro hbel hJ)
      clear hbad hbel hJ ht
      by_cases hlong : 128 < (joinL l).length
      · have hJ2 : joinE l = 4 ∧ joinS l = mkB [] := by
          have : joinE l = 4 := by rw [B.out.2, if_pos hlong]
          exact ⟨this, by unfold joinS; rw [this]; rfl⟩
        have HJ := Lib.hid hJ2
        clear hJ2
        have hlong' : (128 : Int) < ((joinL l).length : Int) := by omega
        go_wp2_with (fail)
        go_ret2
        exact ⟨by rw [HJ.out.1, HJ.out.2]; rfl, B.out.1⟩
      · have hJ2 : joinE l = 0 ∧ joinS l = mkB (joinL l) := by
          have : joinE l = 0 := by rw [B.out.2, if_neg hlong]
          exact ⟨this, by unfold joinS; rw [if_pos this]⟩
        have HJ := Lib.hid hJ2
        clear hJ2
        have hlong' : ¬ (128 : Int) < ((joinL l).length : Int) := by omega
        go_wp2_with (fail)
        go_ret2
        exact ⟨by rw [HJ.out.1, HJ.out.2]; rfl, B.out.1⟩

set_option maxRecDepth 100000 in
set_option maxHeartbeats 4000000 in
theorem rappend (q m : ByteArray) (hq : q.size ≤ 1000000) (hm : m.size ≤ 1000000) (w : World) :
    Calls Tryd.prog 26 #[.string q, .string m] w (AppPost w q m) := by
  go_enter Tryd.func26, Tryd.ntmps26
  go_wp2_with (fail)
  refine (rcheckQ q _ (by omega)).mono ?_
  rintro e W1 ⟨rfl, rfl⟩
  by_cases c1 : chkL q.data.toList = 0
  · rw [c1]
    have C1 := Lib.hid c1
    have z1 := (chkL_zero c1).1
    rw [size_data] at z1
    clear c1
    go_wp2_with (fail)
    refine (rcheckQ m _ (by omega)).mono ?_
    rintro e W2 ⟨rfl, rfl⟩
    by_cases c2 : chkL m.data.toList = 0
    · rw [c2]
      have C2 := Lib.hid c2
      have z2 := (chkL_zero c2).1
      rw [size_data] at z2
      clear c2
      have e1 := empty_dec q
      have e2 := empty_dec m
      have hcat0 : mkB (m.data.toList ++ q.data.toList) = m ++ q := by
        apply str_ext
        rw [mkB_data]; simp
      by_cases hq0 : q.size = 0
      · have HC := Lib.hid (appE_empty C1.out C2.out (.inl (nil_size.2 hq0)))
        have HT := Lib.hid hcat0
        rw [decide_eq_true hq0] at e1
        clear hq0 e2 hcat0
        go_wp2_with (fail)
        go_ret2
        exact ⟨by rw [HC.out.1, HC.out.2, HT.out]; rfl, Below.refl _ _⟩
      · rw [decide_eq_false hq0] at e1
        by_cases hm0 : m.size = 0
        · have HC := Lib.hid (appE_empty C1.out C2.out (.inr (nil_size.2 hm0)))
          have HT := Lib.hid hcat0
          rw [decide_eq_true hm0] at e2
          clear hq0 hm0 hcat0
          go_wp2_with (fail)
          go_ret2
          exact ⟨by rw [HC.out.1, HC.out.2, HT.out]; rfl, Below.refl _ _⟩
        · rw [decide_eq_false hm0] at e2
          have hno : ¬ (q.data.toList = [] ∨ m.data.toList = []) := by
            rw [nil_size, nil_size]; omega
          clear hcat0
          by_cases hl : 128 < q.size + 1 + m.size
          · have HC := Lib.hid (appE_long C1.out C2.out hno (by rw [size_data, size_data]; exact hl))
            have hl' : (128 : Int) < (q.size : Int) + (m.size : Int) + 1 := by omega
            clear hq0 hm0 hno hl
            go_wp2_with (fail)
            go_ret2
            exact ⟨by rw [HC.out.1, HC.out.2]; rfl, Below.refl _ _⟩
          · have HC := Lib.hid (appE_ok C1.out C2.out hno (by rw [size_data, size_data]; exact hl))
            have hl' : ¬ (128 : Int) < (q.size : Int) + (m.size : Int) + 1 := by omega
            have hcat : m ++ (⟨#[38]⟩ : ByteArray) ++ q = mkB (m.data.toList ++ 38 :: q.data.toList) := by
              apply str_ext
              rw [mkB_data]
              simp
            have HT := Lib.hid hcat
            clear hq0 hm0 hno hl hcat
            go_wp2_with (fail)
            go_ret2
            exact ⟨by rw [HC.out.1, HC.out.2, ← HT.out]; rfl, Below.refl _ _⟩
    · have HC := Lib.hid (appE_two C1.out c2)
      have hne : (chkL m.data.toList != 0) = true := by simpa using c2
      clear c2
      go_wp2_with (fail)
      go_ret2
      exact ⟨by rw [HC.out.1, HC.out.2]; rfl, Below.refl _ _⟩
  · have HC := Lib.hid (appE_one (m := m.data.toList) c1)
    have hne : (chkL q.data.toList != 0) = true := by simpa using c1
    have hne2 : (chkL q.data.toList == 0) = false := by simpa using c1
    clear c1
    go_wp2_with (fail)
    go_ret2
    exact ⟨by rw [HC.out.1, HC.out.2]; rfl, Below.refl _ _⟩

set_option maxRecDepth 100000 in
set_option maxHeartbeats 2000000 in
theorem rcanonicalQ (s : ByteArray) (hs : s.size ≤ 1000000) (w : World) :
    Calls Tryd.prog 33 #[.string s] w fun e W' => e = .returned (.tuple #[.string (canS s.data.toList), .int .i64 (canE s.data.toList)]) ∧ Below w.heap.size w W' := by
  go_enter Tryd.func33, Tryd.ntmps33
  go_wp2_with (fail)
  refine (rdecoded s hs _).mono ?_
  rintro e W1 ⟨v, rfl, hown, h1⟩
  by_cases hc : decE s.data.toList = 0
  · rw [hc]
    obtain ⟨A, c, rfl, hcl, _⟩ := own_cellsP hown
    have hv : canS s.data.toList = joinS (decL s.data.toList) ∧ canE s.data.toList = joinE (decL s.data.toList) := by
      unfold canS canE; rw [if_pos hc, if_pos hc]; exact ⟨rfl, rfl⟩
    have B := Lib.hid (And.intro h1 (And.intro hcl hv))
    clear hc hown h1 hcl hv
    go_wp2_with (fail)
    refine (rjoin _ (decL_small s hs).1 (decL_small s hs).2 A c _ B.out.2.1).mono ?_
    rintro e W2 ⟨rfl, h2⟩
    have H2 := Lib.hid (gr_call B.out.1 h2)
    clear h2
    go_wp2_with (fail)
    go_ret2
    exact ⟨by rw [B.out.2.2.1, B.out.2.2.2]; rfl, H2.out⟩
  · have hne : (decE s.data.toList != 0) = true := by simpa using hc
    have hv : canS s.data.toList = mkB [] ∧ canE s.data.toList = decE s.data.toList := by
      unfold canS canE; rw [if_neg hc, if_neg hc]; exact ⟨rfl, rfl⟩
    have B := Lib.hid (And.intro h1 hv)
    clear hc hown h1 hv
    go_wp2_with (fail)
    go_ret2
    exact ⟨by rw [B.out.2.1, B.out.2.2]; rfl, B.out.1⟩
end Go.Proofs.YtfbkbnojbbpopaaDoor
