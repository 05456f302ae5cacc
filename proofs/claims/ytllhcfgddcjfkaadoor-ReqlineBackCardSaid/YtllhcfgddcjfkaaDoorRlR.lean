/-
  ReqlineBack, walked: it returns true, whatever the input; condition: a variable of the library is an int.
-/
import Derived.Test.YtllhcfgddcjfkaaDoorRlK
namespace Go.Proofs.YtllhcfgddcjfkaaDoor
open Go.RowKit
set_option linter.unusedVariables false
set_option linter.unusedSimpArgs false

theorem str_same (s : ByteArray) : (s.toList == s.toList) = true := by simp

set_option maxRecDepth 100000 in
set_option maxHeartbeats 16000000 in
theorem back_core (a b s : ByteArray) (ha : ¬ (60 : Int) < (a.size : Int)) (hb : ¬ (1200 : Int) < (b.size : Int)) (hs : ¬ (300 : Int) < (s.size : Int)) (w : World) (hm : MaxOk w) :
    Calls Tryd.prog 8 #[.agg #[.string a, .string b], .string s] w fun e W' => e = .returned (.bool true) ∧ Below w.heap.size w W' := by
  have HM := Lib.hid hm
  have hza : a.size ≤ 1000000 := by omega
  have hzb : b.size ≤ 1000000 := by omega
  have hzs : s.size ≤ 1000000 := by omega
  have z0 := gr_alloc (Below.refl w.heap.size w) (.cells #[.string a, .string b] 29)
  have b0 := Blk.new w 29 #[.string a, .string b]
  have x0 := b0.cell' (i := 0) rfl
  have x1 := b0.cell' (i := 1) rfl
  have xl := b0.lt
  have HZ := Lib.hid (And.intro b0 z0)
  have heq := eqLine a b a b
  simp only [decide_true, Bool.and_self] at heq
  obtain ⟨T, hT⟩ : ∃ T, T = txtS a b := ⟨_, rfl⟩
  obtain ⟨E, hE⟩ : ∃ E, E = txtE a b := ⟨_, rfl⟩
  have HT : Hid (E = 0 → T.size ≤ 1000000 ∧ parV T = .tuple #[.agg #[.string a, .string b], .int .i64 0, .int .i64 (T.size : Int)]) := Lib.hid (fun h => by
    have h' : txtE a b = 0 := by rw [← hE]; exact h
    have e : T = textL a b := by rw [hT]; unfold txtS; rw [if_pos h']
    obtain ⟨k1, k2, k3⟩ := text_back h'
    rw [e]
    refine ⟨by rw [text_size]; omega, ?_⟩
    unfold parV
    rw [(parA_full k3).1, (parA_full k3).2.1, k1, k2, k3, parP_zero k3])
  have HTE := Lib.hid (And.intro hT hE)
  have HSV : Hid (parS (byS s) s.size = 0 → parV s = .tuple #[.agg #[.string (pA s), .string (pB s)], .int .i64 0, .int .i64 (s.size : Int)] ∧ txtE (pA s) (pB s) = 0 ∧ txtS (pA s) (pB s) = s ∧ (pA s).size ≤ 1000000 ∧ (pB s).size ≤ 1000000) := Lib.hid (fun h => by
    obtain ⟨k1, k2⟩ := back_text h
    have hp := txt_ok k1
    refine ⟨?_, k1, ?_, by omega, by omega⟩
    · unfold parV; rw [(parA_full h).1, (parA_full h).2.1, h, parP_zero h]
    · unfold txtS; rw [if_pos k1]; exact k2)
  have HJ := Lib.hid (And.intro (@join_1 s) (And.intro (@join_2 s) (And.intro (@join_3 s) (partN_ways (byS s) s.size))))
  have hss := str_same s
  clear hm z0 b0 hT hE
  go_enter Tryd.func8, Tryd.ntmps8
  go_wp2_with (fail)
  refine (btext a b hza hzb _).mono ?_
  rintro e W1 ⟨rfl, h1⟩
  rw [← HTE.out.1, ← HTE.out.2]
  have y := HZ.out.1.call h1
  have H1 := Lib.hid (And.intro y (gr_call HZ.out.2 h1))
  clear x0 x1 xl y h1
  have main : ∀ (X : World), True → True := fun _ _ => trivial
  clear main
  by_cases hE0 : E = 0
  case' pos =>
    obtain ⟨hTz, hTV⟩ := HT.out hE0
    have HTV := Lib.hid hTV
    subst hE0
    clear hTV
    go_wp2_with (fail)
    refine (bparse T hTz _ (HM.out.below H1.out.2)).mono ?_
    rintro e W2 ⟨rfl, h2⟩
    rw [HTV.out]
    have y := (H1.out.1.call h2).alloc (.cells #[.string a, .string b] 29)
    have z := Blk.new W2 29 #[.string a, .string b]
    have y0 := y.cell' (i := 0) rfl
    have y1 := y.cell' (i := 1) rfl
    have yl := y.lt
    have z0 := z.cell' (i := 0) rfl
    have z1 := z.cell' (i := 1) rfl
    have zl := z.lt
    have H2 := Lib.hid (gr_alloc (gr_call H1.out.2 h2) (.cells #[.string a, .string b] 29))
    clear h2 y z
    go_wp2_with (fail)
    clear y0 y1 yl z0 z1 zl hTz
  case' neg =>
    have q0 : (E == 0) = false := by simp; exact hE0
    clear hE0
    go_wp2_with (fail)
    have H2 := Lib.hid H1.out.2
  all_goals
    refine (bparts s hzs _ (HM.out.below H2.out)).mono ?_
    rintro e V1 ⟨rfl, h1⟩
    have K1 := Lib.hid (gr_call H2.out h1)
    clear h1
    have hjn : ∃ n : Nat, n = partN (byS s) s.size := ⟨_, rfl⟩
    obtain ⟨n, hn⟩ := hjn
    rw [← hn] at HJ ⊢
    clear hn
    obtain ⟨x, hx⟩ : ∃ x, x = pA s := ⟨_, rfl⟩
    obtain ⟨y, hy⟩ : ∃ y, y = pB s := ⟨_, rfl⟩
    obtain ⟨z, hz⟩ : ∃ z, z = pC s := ⟨_, rfl⟩
    have hxz : x.size ≤ 1000000 := by rw [hx, pA_size]; have := spA_le (byS s) s.size; omega
    have hyz : y.size ≤ 1000000 := by rw [hy, pB_size]; have := spB_le (byS s) s.size; unfold lenB; omega
    have hzz : z.size ≤ 1000000 := by rw [hz, pC_size]; unfold lenC; omega
    rw [← hx, ← hy] at HSV
    rw [← hx, ← hy, ← hz] at HJ ⊢
    clear hx hy hz
    rcases HJ.out.2.2.2 with hn | hn | hn
    · have hw := HJ.out.1 hn
      subst hn
      have hc : (x.toList == s.toList) = true := by rw [hw]; exact hss
      clear hw
      go_wp2_with (fail)
      refine (bparse s hzs _ (HM.out.below K1.out)).mono ?_
      rintro e V2 ⟨rfl, h1⟩
      by_cases hS0 : parS (byS s) s.size = 0
      · obtain ⟨k1, k2, k3, k4, k5⟩ := HSV.out hS0
        have KV := Lib.hid (And.intro k2 k3)
        rw [k1]
        have K2 := Lib.hid (gr_alloc (gr_call K1.out h1) (.cells #[.string x, .string y] 29))
        have b1 := Blk.new V2 29 #[.string x, .string y]
        have u0 := b1.cell' (i := 0) rfl
        have u1 := b1.cell' (i := 1) rfl
        have ul := b1.lt
        clear h1 k1 k2 k3 hc b1 hS0
        go_wp2_with (fail)
        refine (btext x y k4 k5 _).mono ?_
        rintro e V3 ⟨rfl, h2⟩
        rw [KV.out.1, KV.out.2]
        have K3 := Lib.hid (gr_call K2.out h2)
        clear h2 u0 u1 ul
        go_wp2_with (fail)
        refine (awake _ (HM.out.below K3.out)).mono ?_
        rintro e V4 ⟨rfl, h4⟩
        have K4 := Lib.hid (gr_call K3.out h4)
        clear h4
        go_wp2_with (fail)
        go_ret
        exact ⟨rfl, K4.out⟩
      · obtain ⟨S, hS⟩ : ∃ S, S = parS (byS s) s.size := ⟨_, rfl⟩
        unfold parV
        rw [← hS] at hS0 ⊢
        have qS : (S == 0) = false := by simp; exact hS0
        have K2 := Lib.hid (gr_alloc (gr_call K1.out h1) (.cells #[.string (parA s), .string (parB s)] 29))
        clear h1 hS hc hS0
        go_wp2_with (fail)
        refine (awake _ (HM.out.below K2.out)).mono ?_
        rintro e V4 ⟨rfl, h4⟩
        have K4 := Lib.hid (gr_call K2.out h4)
        clear h4
        go_wp2_with (fail)
        go_ret
        exact ⟨rfl, K4.out⟩
    · have hw : x ++ { data := #[32] } ++ y = s := HJ.out.2.1 hn
      subst hn
      have hc : ((x ++ { data := #[32] } ++ y).toList == s.toList) = true := by rw [hw]; exact hss
      clear hw
      go_wp2_with (fail)
      refine (bparse s hzs _ (HM.out.below K1.out)).mono ?_
      rintro e V2 ⟨rfl, h1⟩
      by_cases hS0 : parS (byS s) s.size = 0
      · obtain ⟨k1, k2, k3, k4, k5⟩ := HSV.out hS0
        have KV := Lib.hid (And.intro k2 k3)
        rw [k1]
        have K2 := Lib.hid (gr_alloc (gr_call K1.out h1) (.cells #[.string x, .string y] 29))
        have b1 := Blk.new V2 29 #[.string x, .string y]
        have u0 := b1.cell' (i := 0) rfl
        have u1 := b1.cell' (i := 1) rfl
        have ul := b1.lt
        clear h1 k1 k2 k3 hc b1 hS0
        go_wp2_with (fail)
        refine (btext x y k4 k5 _).mono ?_
        rintro e V3 ⟨rfl, h2⟩
        rw [KV.out.1, KV.out.2]
        have K3 := Lib.hid (gr_call K2.out h2)
        clear h2 u0 u1 ul
        go_wp2_with (fail)
        refine (awake _ (HM.out.below K3.out)).mono ?_
        rintro e V4 ⟨rfl, h4⟩
        have K4 := Lib.hid (gr_call K3.out h4)
        clear h4
        go_wp2_with (fail)
        go_ret
        exact ⟨rfl, K4.out⟩
      · obtain ⟨S, hS⟩ : ∃ S, S = parS (byS s) s.size := ⟨_, rfl⟩
        unfold parV
        rw [← hS] at hS0 ⊢
        have qS : (S == 0) = false := by simp; exact hS0
        have K2 := Lib.hid (gr_alloc (gr_call K1.out h1) (.cells #[.string (parA s), .string (parB s)] 29))
        clear h1 hS hc hS0
        go_wp2_with (fail)
        refine (awake _ (HM.out.below K2.out)).mono ?_
        rintro e V4 ⟨rfl, h4⟩
        have K4 := Lib.hid (gr_call K2.out h4)
        clear h4
        go_wp2_with (fail)
        go_ret
        exact ⟨rfl, K4.out⟩
    · have hw : x ++ { data := #[32] } ++ y ++ { data := #[32] } ++ z = s := HJ.out.2.2.1 hn
      subst hn
      have hc : ((x ++ { data := #[32] } ++ y ++ { data := #[32] } ++ z).toList == s.toList) = true := by rw [hw]; exact hss
      clear hw
      go_wp2_with (fail)
      refine (bparse s hzs _ (HM.out.below K1.out)).mono ?_
      rintro e V2 ⟨rfl, h1⟩
      by_cases hS0 : parS (byS s) s.size = 0
      · obtain ⟨k1, k2, k3, k4, k5⟩ := HSV.out hS0
        have KV := Lib.hid (And.intro k2 k3)
        rw [k1]
        have K2 := Lib.hid (gr_alloc (gr_call K1.out h1) (.cells #[.string x, .string y] 29))
        have b1 := Blk.new V2 29 #[.string x, .string y]
        have u0 := b1.cell' (i := 0) rfl
        have u1 := b1.cell' (i := 1) rfl
        have ul := b1.lt
        clear h1 k1 k2 k3 hc b1 hS0
        go_wp2_with (fail)
        refine (btext x y k4 k5 _).mono ?_
        rintro e V3 ⟨rfl, h2⟩
        rw [KV.out.1, KV.out.2]
        have K3 := Lib.hid (gr_call K2.out h2)
        clear h2 u0 u1 ul
        go_wp2_with (fail)
        refine (awake _ (HM.out.below K3.out)).mono ?_
        rintro e V4 ⟨rfl, h4⟩
        have K4 := Lib.hid (gr_call K3.out h4)
        clear h4
        go_wp2_with (fail)
        go_ret
        exact ⟨rfl, K4.out⟩
      · obtain ⟨S, hS⟩ : ∃ S, S = parS (byS s) s.size := ⟨_, rfl⟩
        unfold parV
        rw [← hS] at hS0 ⊢
        have qS : (S == 0) = false := by simp; exact hS0
        have K2 := Lib.hid (gr_alloc (gr_call K1.out h1) (.cells #[.string (parA s), .string (parB s)] 29))
        clear h1 hS hc hS0
        go_wp2_with (fail)
        refine (awake _ (HM.out.below K2.out)).mono ?_
        rintro e V4 ⟨rfl, h4⟩
        have K4 := Lib.hid (gr_call K2.out h4)
        clear h4
        go_wp2_with (fail)
        go_ret
        exact ⟨rfl, K4.out⟩

set_option maxRecDepth 100000 in
set_option maxHeartbeats 8000000 in
theorem law_back (a b s : ByteArray) (ha : a.size ≤ 9223372036854775807) (hb : b.size ≤ 9223372036854775807) (hs : s.size ≤ 9223372036854775807) (w : World) (hm : MaxOk w) :
    Calls Tryd.prog 8 #[.agg #[.string a, .string b], .string s] w fun e W' => e = .returned (.bool true) ∧ Below w.heap.size w W' := by
  have z0 := gr_alloc (Below.refl w.heap.size w) (.cells #[.string a, .string b] 29)
  have b0 := Blk.new w 29 #[.string a, .string b]
  have x0 := b0.cell' (i := 0) rfl
  have x1 := b0.cell' (i := 1) rfl
  have xl := b0.lt
  by_cases h1 : (60 : Int) < (a.size : Int)
  · have HM := Lib.hid (And.intro hm z0)
    clear hm z0 b0
    go_enter Tryd.func8, Tryd.ntmps8
    go_wp2_with (fail)
    refine (awake _ (HM.out.1.below HM.out.2)).mono ?_
    rintro e W1 ⟨rfl, h1⟩
    have H1 := Lib.hid (gr_call HM.out.2 h1)
    clear h1
    go_wp2_with (fail)
    go_ret
    exact ⟨rfl, H1.out⟩
  · by_cases h2 : (1200 : Int) < (b.size : Int)
    · have HM := Lib.hid (And.intro hm z0)
      clear hm z0 b0
      go_enter Tryd.func8, Tryd.ntmps8
      go_wp2_with (fail)
      refine (awake _ (HM.out.1.below HM.out.2)).mono ?_
      rintro e W1 ⟨rfl, h1⟩
      have H1 := Lib.hid (gr_call HM.out.2 h1)
      clear h1
      go_wp2_with (fail)
      go_ret
      exact ⟨rfl, H1.out⟩
    · by_cases h3 : (300 : Int) < (s.size : Int)
      · have HM := Lib.hid (And.intro hm z0)
        clear hm z0 b0
        go_enter Tryd.func8, Tryd.ntmps8
        go_wp2_with (fail)
        refine (awake _ (HM.out.1.below HM.out.2)).mono ?_
        rintro e W1 ⟨rfl, h1⟩
        have H1 := Lib.hid (gr_call HM.out.2 h1)
        clear h1
        go_wp2_with (fail)
        go_ret
        exact ⟨rfl, H1.out⟩
      · exact back_core a b s h1 h2 h3 w hm
end Go.Proofs.YtllhcfgddcjfkaaDoor
