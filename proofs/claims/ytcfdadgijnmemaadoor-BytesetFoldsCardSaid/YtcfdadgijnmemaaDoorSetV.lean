/-
  Parse, of the reference: as the plain function says; no condition.
-/
import Derived.Test.YtcfdadgijnmemaaDoorSetT
namespace Go.Proofs.YtcfdadgijnmemaaDoor
open Go.RowKit
set_option linter.unusedVariables false
set_option linter.unusedSimpArgs false


set_option maxRecDepth 100000 in
set_option maxHeartbeats 8000000 in
theorem rparse (s : ByteArray) (w : World) :
    Calls Tryd.prog 20 #[.string s] w fun e w' => e = .returned (.tuple #[Value.agg #[.int .u64 (setW ((parseP s).1) 0 : Int), .int .u64 (setW ((parseP s).1) 1 : Int), .int .u64 (setW ((parseP s).1) 2 : Int), .int .u64 (setW ((parseP s).1) 3 : Int)], .int .i64 (parseP s).2]) ∧ Below w.heap.size w w' := by
  by_cases hlong : 1024 < s.size
  · have fin : Hid (parseP s = (noP, 4)) := Lib.hid (by unfold parseP; rw [if_pos hlong])
    go_enter Tryd.func20, Tryd.ntmps20
    go_wp2_with (fail)
    refine bodyPost_ret (v := .tuple #[.agg #[.int .u64 0, .int .u64 0, .int .u64 0, .int .u64 0], .int .i64 4]) (by simp [results, Tryd.results20, go_sem]) rfl ⟨by rw [fin.out]; show _ = Ending.returned (.tuple #[Value.agg #[.int .u64 (setW noP 0 : Int), .int .u64 (setW noP 1 : Int), .int .u64 (setW noP 2 : Int), .int .u64 (setW noP 3 : Int)], .int .i64 4]); rw [noV], ?_⟩
    have h2 := Below.refl w.heap.size w
    repeat (first | exact h2 | refine gr_set ?_ (by simp) _ | refine gr_alloc ?_ _)
  · have hs : s.size ≤ 1024 := by omega
    have finS : Hid (parseP s = prsL noP s.data.toList) := Lib.hid (by unfold parseP; rw [if_neg hlong])
    clear hlong
    go_enter Tryd.func20, Tryd.ntmps20
    go_wp2_with (fail)
    go_loopw [5] (fun i wr => ∃ (k : Nat) (q : Nat → Bool), i = .int .i64 (k : Int) ∧ k ≤ s.size ∧ prsL q (s.data.toList.drop k) = prsL noP s.data.toList ∧ SetAt w q wr) (fun i _ => s.size - (intOf i).toNat)
    case atStart => exact ⟨0, noP, rfl, by omega, rfl, SetAt.start w⟩
    case round =>
      obtain ⟨k, q, rfl, hk, hprs, hpb⟩ := hrel
      by_cases h1 : k < s.size
      · obtain ⟨u, hu⟩ : ∃ u, u = s.extract k s.size := ⟨_, rfl⟩
        have hul : u.data.toList = s.data.toList.drop k := by rw [hu]; exact ext_end s k
        have hus : u.size = s.size - k := by rw [hu]; exact ext_end_size s k
        have hne := ne_toList u (by omega)
        have hr := rdB_bound u.data.toList
        rw [size_data] at hr
        obtain ⟨lo, hlo⟩ : ∃ lo, lo = (rdB u.data.toList).1 := ⟨_, rfl⟩
        obtain ⟨n, hn⟩ : ∃ n, n = (rdB u.data.toList).2 := ⟨_, rfl⟩
        rw [← hlo, ← hn] at hr
        obtain ⟨hr1, hr2, hr3⟩ := hr
        have hkn : k + n ≤ s.size := by omega
        have cr : Hid (∀ W : World, Calls Tryd.prog 43 #[.string u] W fun e w' => e = .returned (.tuple #[.int .u8 (lo : Int), .int .i64 (n : Int)]) ∧ Below W.heap.size W w') := Lib.hid (fun W => by
          have h := rread u (by omega) W
          unfold RdPost at h
          rw [← hlo, ← hn] at h
          exact h)
        rw [← hul] at hprs
        have HPR := Lib.hid (And.intro hprs (And.intro hpb (And.intro hne (And.intro hlo (And.intro hn hul)))))
        have HU := Lib.hid (And.intro hu hus)
        have hi0 : (0 : Int) ≤ k := by omega
        clear hprs hlo hn hne hu hul hus hr2
        have huE := HU.out.1.symm
        by_cases hn0 : n = 0
        · have hnb : ((n : Int) == 0) = true := by rw [hn0]; rfl
          have fin : Hid (parseP s = (noP, 3)) := Lib.hid (by rw [finS.out, ← HPR.out.1]; exact prsL_bad _ _ HPR.out.2.2.1 (by rw [← HPR.out.2.2.2.2.1]; exact hn0))
          clear hn0 hpb
          go_wp2_with (fail)
          refine (cr.out _).mono ?_
          rintro e W1 ⟨rfl, hb1⟩
          have H1 := Lib.hid (HPR.out.2.1.below hb1)
          clear hb1
          have a0 := H1.out.2.1.cell' (i := 0) rfl
          have a1 := H1.out.2.1.cell' (i := 1) rfl
          have a2 := H1.out.2.1.cell' (i := 2) rfl
          have a3 := H1.out.2.1.cell' (i := 3) rfl
          have f0 := H1.out.2.1.frozen 0
          have f1 := H1.out.2.1.frozen 1
          have f2 := H1.out.2.1.frozen 2
          have f3 := H1.out.2.1.frozen 3
          have hsz := H1.out.1.lt
          go_wp2_with (fail)
          refine bodyPost_ret (v := .tuple #[.agg #[.int .u64 0, .int .u64 0, .int .u64 0, .int .u64 0], .int .i64 3]) (by simp [results, Tryd.results20, go_sem, a0, a1, a2, a3]) rfl ⟨by rw [fin.out]; show _ = Ending.returned (.tuple #[Value.agg #[.int .u64 (setW noP 0 : Int), .int .u64 (setW noP 1 : Int), .int .u64 (setW noP 2 : Int), .int .u64 (setW noP 3 : Int)], .int .i64 3]); rw [noV], ?_⟩
          have h2 := H1.out.2.2
          repeat (first | exact h2 | refine gr_set ?_ (by simp) _ | refine gr_alloc ?_ _)
        · have hnb : ((n : Int) == 0) = false := by simp; omega
          have HN0 := Lib.hid hn0
          clear hn0 hpb
          have hdl : Hid (u.data.toList.drop n = s.data.toList.drop (k + n)) := Lib.hid (by rw [HPR.out.2.2.2.2.2, List.drop_drop])
          by_cases hv1 : k + n < s.size
          · have hlt2 : decide ((k : Int) + (n : Int) < (s.size : Int)) = true := by simp; omega
            obtain ⟨x, hx⟩ : ∃ x, x = s[k + n] := ⟨_, rfl⟩
            have hxS : s[k + n] = x := hx.symm
            have hxb := x.toNat_lt
            have hdr : Hid (u.data.toList.drop n = x :: s.data.toList.drop (k + n + 1)) := Lib.hid (by rw [hdl.out, drop_at s (k + n) hv1, hx])
            clear hx
            by_cases hx45 : x = 45
            · have hxb45 : ((x.toNat : Int) == 45) = true := by rw [hx45]; rfl
              obtain ⟨y, hy⟩ : ∃ y, y = s.extract (k + n + 1) s.size := ⟨_, rfl⟩
              have hyl : y.data.toList = s.data.toList.drop (k + n + 1) := by rw [hy]; exact ext_end s _
              have hys : y.size = s.size - (k + n + 1) := by rw [hy]; exact ext_end_size s _
              have hr := rdB_bound y.data.toList
              rw [size_data] at hr
              obtain ⟨hi, hhi⟩ : ∃ hi, hi = (rdB y.data.toList).1 := ⟨_, rfl⟩
              obtain ⟨m, hm⟩ : ∃ m, m = (rdB y.data.toList).2 := ⟨_, rfl⟩
              rw [← hhi, ← hm] at hr
              obtain ⟨hs1, hs2, hs3⟩ := hr
              have hkm : k + n + 1 + m ≤ s.size := by omega
              have cr2 : Hid (∀ W : World, Calls Tryd.prog 43 #[.string y] W fun e w' => e = .returned (.tuple #[.int .u8 (hi : Int), .int .i64 (m : Int)]) ∧ Below W.heap.size W w') := Lib.hid (fun W => by
                have h := rread y (by omega) W
                unfold RdPost at h
                rw [← hhi, ← hm] at h
                exact h)
              have two : Hid (prsL q u.data.toList = if m = 0 then (noP, 3) else if hi ≤ lo then (noP, 8) else prsL (addR q lo hi) (y.data.toList.drop m)) := Lib.hid (by
                obtain ⟨_, _, h3, h4, h5, _⟩ := HPR.out
                have := prsL_two q u.data.toList y.data.toList h3 (by rw [← h5]; exact HN0.out) (by rw [← h5, hdr.out, hx45, hyl])
                rw [← h4, ← hhi, ← hm] at this
                exact this)
              have HY := Lib.hid (And.intro hy (And.intro hyl hys))
              clear hx45 hy hyl hhi hm hys hs2
              have hyE := HY.out.1.symm
              by_cases hm0 : m = 0
              · have hmb : ((m : Int) == 0) = true := by rw [hm0]; rfl
                have fin : Hid (parseP s = (noP, 3)) := Lib.hid (by rw [finS.out, ← HPR.out.1, two.out, if_pos hm0])
                clear hm0
                go_wp2_with (fail)
                refine (cr.out _).mono ?_
                rintro e W1 ⟨rfl, hb1⟩
                have H1 := Lib.hid (HPR.out.2.1.below hb1)
                clear hb1
                go_wp2_with (fail)
                refine (cr2.out _).mono ?_
                rintro e W2 ⟨rfl, hb2⟩
                have H2 := Lib.hid (H1.out.below hb2)
                clear hb2
                have a0 := H2.out.2.1.cell' (i := 0) rfl
                have a1 := H2.out.2.1.cell' (i := 1) rfl
                have a2 := H2.out.2.1.cell' (i := 2) rfl
                have a3 := H2.out.2.1.cell' (i := 3) rfl
                have f0 := H2.out.2.1.frozen 0
                have f1 := H2.out.2.1.frozen 1
                have f2 := H2.out.2.1.frozen 2
                have f3 := H2.out.2.1.frozen 3
                have hsz := H2.out.1.lt
                go_wp2_with (fail)
                refine bodyPost_ret (v := .tuple #[.agg #[.int .u64 0, .int .u64 0, .int .u64 0, .int .u64 0], .int .i64 3]) (by simp [results, Tryd.results20, go_sem, a0, a1, a2, a3]) rfl ⟨by rw [fin.out]; show _ = Ending.returned (.tuple #[Value.agg #[.int .u64 (setW noP 0 : Int), .int .u64 (setW noP 1 : Int), .int .u64 (setW noP 2 : Int), .int .u64 (setW noP 3 : Int)], .int .i64 3]); rw [noV], ?_⟩
                have h2 := H2.out.2.2
                repeat (first | exact h2 | refine gr_set ?_ (by simp) _ | refine gr_alloc ?_ _)
              · have hmb : ((m : Int) == 0) = false := by simp; omega
                by_cases hle : hi ≤ lo
                · have fin : Hid (parseP s = (noP, 8)) := Lib.hid (by rw [finS.out, ← HPR.out.1, two.out, if_neg hm0, if_pos hle])
                  clear hm0
                  go_wp2_with (fail)
                  refine (cr.out _).mono ?_
                  rintro e W1 ⟨rfl, hb1⟩
                  have H1 := Lib.hid (HPR.out.2.1.below hb1)
                  clear hb1
                  go_wp2_with (fail)
                  refine (cr2.out _).mono ?_
                  rintro e W2 ⟨rfl, hb2⟩
                  have H2 := Lib.hid (H1.out.below hb2)
                  clear hb2
                  have a0 := H2.out.2.1.cell' (i := 0) rfl
                  have a1 := H2.out.2.1.cell' (i := 1) rfl
                  have a2 := H2.out.2.1.cell' (i := 2) rfl
                  have a3 := H2.out.2.1.cell' (i := 3) rfl
                  have f0 := H2.out.2.1.frozen 0
                  have f1 := H2.out.2.1.frozen 1
                  have f2 := H2.out.2.1.frozen 2
                  have f3 := H2.out.2.1.frozen 3
                  have hsz := H2.out.1.lt
                  go_wp2_with (fail)
                  refine bodyPost_ret (v := .tuple #[.agg #[.int .u64 0, .int .u64 0, .int .u64 0, .int .u64 0], .int .i64 8]) (by simp [results, Tryd.results20, go_sem, a0, a1, a2, a3]) rfl ⟨by rw [fin.out]; show _ = Ending.returned (.tuple #[Value.agg #[.int .u64 (setW noP 0 : Int), .int .u64 (setW noP 1 : Int), .int .u64 (setW noP 2 : Int), .int .u64 (setW noP 3 : Int)], .int .i64 8]); rw [noV], ?_⟩
                  have h2 := H2.out.2.2
                  repeat (first | exact h2 | refine gr_set ?_ (by simp) _ | refine gr_alloc ?_ _)
                · have go : Hid (prsL (addR q lo hi) (s.data.toList.drop (k + n + 1 + m)) = prsL noP s.data.toList) := Lib.hid (by
                    rw [← HPR.out.1, two.out, if_neg hm0, if_neg hle, HY.out.2.1, List.drop_drop])
                  clear hm0
                  go_wp2_with (fail)
                  refine (cr.out _).mono ?_
                  rintro e W1 ⟨rfl, hb1⟩
                  have H1 := Lib.hid (HPR.out.2.1.below hb1)
                  clear hb1
                  go_wp2_with (fail)
                  refine (cr2.out _).mono ?_
                  rintro e W2 ⟨rfl, hb2⟩
                  have H2 := Lib.hid (H1.out.below hb2)
                  clear hb2
                  go_wp2_with (fail)
                  refine (rranges1 _ lo hi _ (by omega) (by omega) _ 35 (Blk.new _ _ _)).mono ?_
                  rintro e W5 ⟨xe, rfl, hb5⟩
                  have HP5 := Lib.hid ((H2.out.alloc _).below hb5)
                  clear hb5
                  obtain ⟨q0, q1, q2, q3, _⟩ := HP5.out.facts
                  have hsz5 := HP5.out.1.lt
                  go_wp2_with (fail)
                  refine (runion2 _ _ _ _ _ 28 (blk_at (by simp))).mono ?_
                  rintro e W6 ⟨rfl, hb6⟩
                  have HP6 := Lib.hid (((HP5.out.alloc _).alloc _).below hb6)
                  clear hb6 q0 q1 q2 q3
                  obtain ⟨c0, c1, c2, c3, g0, g1, g2, g3⟩ := HP6.out.facts
                  go_wp2_with (fail)
                  refine ⟨⟨k + n + 1 + m, addR q lo hi, by go_num, hkm, go.out, HP6.out.store⟩, by simp [intOf]; omega⟩
            · have hxb45 : ((x.toNat : Int) == 45) = false := by
                rw [beq_eq_false_iff_ne]
                intro h
                exact hx45 (u8_ext (by rw [h]; rfl))
              have go : Hid (prsL (addR q lo lo) (s.data.toList.drop (k + n)) = prsL noP s.data.toList) := Lib.hid (by
                obtain ⟨h1, _, h3, h4, h5, _⟩ := HPR.out
                have := prsL_one q u.data.toList h3 (by rw [← h5]; exact HN0.out) (by rw [← h5, hdr.out]; intro t ht; injection ht with ht _; exact hx45 ht)
                rw [← h4, ← h5, hdl.out] at this
                rw [← this]; exact h1)
              have hnp := HN0.out
              clear hx45
              go_wp2_with (fail)
              refine (cr.out _).mono ?_
              rintro e W1 ⟨rfl, hb1⟩
              have H1 := Lib.hid (HPR.out.2.1.below hb1)
              clear hb1
              go_wp2_with (fail)
              refine (rranges1 _ lo lo _ (by omega) (by omega) _ 35 (Blk.new _ _ _)).mono ?_
              rintro e W5 ⟨xe, rfl, hb5⟩
              have HP5 := Lib.hid ((H1.out.alloc _).below hb5)
              clear hb5
              obtain ⟨q0, q1, q2, q3, _⟩ := HP5.out.facts
              have hsz5 := HP5.out.1.lt
              go_wp2_with (fail)
              refine (runion2 _ _ _ _ _ 28 (blk_at (by simp))).mono ?_
              rintro e W6 ⟨rfl, hb6⟩
              have HP6 := Lib.hid (((HP5.out.alloc _).alloc _).below hb6)
              clear hb6 q0 q1 q2 q3
              obtain ⟨c0, c1, c2, c3, g0, g1, g2, g3⟩ := HP6.out.facts
              go_wp2_with (fail)
              refine ⟨⟨k + n, addR q lo lo, by go_num, hkn, go.out, HP6.out.store⟩, by simp [intOf]; omega⟩
          · have hlt2 : decide ((k : Int) + (n : Int) < (s.size : Int)) = false := by simp; omega
            have go : Hid (prsL (addR q lo lo) (s.data.toList.drop (k + n)) = prsL noP s.data.toList) := Lib.hid (by
              obtain ⟨h1, _, h3, h4, h5, _⟩ := HPR.out
              have := prsL_one q u.data.toList h3 (by rw [← h5]; exact HN0.out) (by rw [← h5, hdl.out, drop_end s _ (by omega)]; intro t ht; cases ht)
              rw [← h4, ← h5, hdl.out] at this
              rw [← this]; exact h1)
            have hnp := HN0.out
            clear hv1
            go_wp2_with (fail)
            refine (cr.out _).mono ?_
            rintro e W1 ⟨rfl, hb1⟩
            have H1 := Lib.hid (HPR.out.2.1.below hb1)
            clear hb1
            go_wp2_with (fail)
            refine (rranges1 _ lo lo _ (by omega) (by omega) _ 35 (Blk.new _ _ _)).mono ?_
            rintro e W5 ⟨xe, rfl, hb5⟩
            have HP5 := Lib.hid ((H1.out.alloc _).below hb5)
            clear hb5
            obtain ⟨q0, q1, q2, q3, _⟩ := HP5.out.facts
            have hsz5 := HP5.out.1.lt
            go_wp2_with (fail)
            refine (runion2 _ _ _ _ _ 28 (blk_at (by simp))).mono ?_
            rintro e W6 ⟨rfl, hb6⟩
            have HP6 := Lib.hid (((HP5.out.alloc _).alloc _).below hb6)
            clear hb6 q0 q1 q2 q3
            obtain ⟨c0, c1, c2, c3, g0, g1, g2, g3⟩ := HP6.out.facts
            go_wp2_with (fail)
            refine ⟨⟨k + n, addR q lo lo, by go_num, hkn, go.out, HP6.out.store⟩, by simp [intOf]; omega⟩
      · have hE : s.data.toList.drop k = [] := drop_end s k (by omega)
        rw [hE] at hprs
        have fin : Hid (parseP s = (q, 0)) := Lib.hid (by rw [finS.out, ← hprs]; exact prsL_nil q)
        have HB := Lib.hid hpb
        have a0 := hpb.2.1.cell' (i := 0) rfl
        have a1 := hpb.2.1.cell' (i := 1) rfl
        have a2 := hpb.2.1.cell' (i := 2) rfl
        have a3 := hpb.2.1.cell' (i := 3) rfl
        have f0 := hpb.2.1.frozen 0
        have f1 := hpb.2.1.frozen 1
        have f2 := hpb.2.1.frozen 2
        have f3 := hpb.2.1.frozen 3
        have z0 := hpb.1.cell' (i := 0) rfl
        have z1 := hpb.1.cell' (i := 1) rfl
        have z2 := hpb.1.cell' (i := 2) rfl
        have z3 := hpb.1.cell' (i := 3) rfl
        have hsz := hpb.1.lt
        clear hprs hpb hE
        go_wp2_with (fail)
        refine bodyPost_ret (v := .tuple #[Value.agg #[.int .u64 (setW q 0 : Int), .int .u64 (setW q 1 : Int), .int .u64 (setW q 2 : Int), .int .u64 (setW q 3 : Int)], .int .i64 0]) (by simp [results, Tryd.results20, go_sem, a0, a1, a2, a3]) rfl ⟨by rw [fin.out], ?_⟩
        have h2 := HB.out.2.2
        repeat (first | exact h2 | refine gr_set ?_ (by simp) _ | refine gr_alloc ?_ _)
end Go.Proofs.YtcfdadgijnmemaaDoor
