/-
  QueryJoins, QueryBack, walked: they return true, whatever the input; condition: a variable of the library is an int.
-/
import Derived.Test.YtfbkbnojbbpopaaDoorQyW
namespace Go.Proofs.YtfbkbnojbbpopaaDoor
open Go.RowKit
set_option linter.unusedVariables false
set_option linter.unusedSimpArgs false

theorem sz_step {l : List Pr} {k N : Nat} {p : Pr} (hp : l[k]? = some p) (h : ∀ j x, j < k → l[j]? = some x → x.n.size ≤ N ∧ x.v.size ≤ N) (hx : p.n.size ≤ N ∧ p.v.size ≤ N) : ∀ j x, j < k + 1 → l[j]? = some x → x.n.size ≤ N ∧ x.v.size ≤ N := by
  intro j x hj hx'
  by_cases e : j = k
  · subst e
    rw [hp] at hx'
    cases hx'
    exact hx
  · exact h j x (by omega) hx'
theorem sz_all {l : List Pr} {N : Nat} (h : ∀ j x, j < l.length → l[j]? = some x → x.n.size ≤ N ∧ x.v.size ≤ N) : ∀ p ∈ l, p.n.size ≤ N ∧ p.v.size ≤ N := by
  intro p hp
  obtain ⟨j, hj⟩ := List.getElem?_of_mem hp
  exact h j p (List.getElem?_eq_some_iff.1 hj).1 hj

set_option maxRecDepth 100000 in
set_option maxHeartbeats 8000000 in
theorem law_joins (l : List Pr) (A : Option Addr) (c : Nat) (q m : ByteArray) (wl : ∀ p ∈ l, p.n.size ≤ 9223372036854775807 ∧ p.v.size ≤ 9223372036854775807) (wq : q.size ≤ 9223372036854775807) (wm : m.size ≤ 9223372036854775807) (w : World) (hm : MaxOk w) (hA : Cells w A 3 l.length (prAt l)) (hok : ArgOk A l.length c) :
    Calls Tryd.prog 6 #[.slice A l.length c, .string q, .string m] w fun e W' => e = .returned (.bool true) ∧ Below w.heap.size w W' := by
  obtain ⟨n, hn⟩ : ∃ n, n = l.length := ⟨_, rfl⟩
  have HM := Lib.hid (And.intro hm (And.intro hA (And.intro hok (And.intro hn wl))))
  have hnm : l.length = n := hn.symm
  rw [hnm]
  clear hm hA hok wl hn hnm
  by_cases h0 : 60 < n ∨ 300 < q.size ∨ 300 < m.size
  · rcases (show (60 : Int) < n ∨ (¬ (60 : Int) < n ∧ (300 : Int) < q.size) ∨ (¬ (60 : Int) < n ∧ ¬ (300 : Int) < q.size ∧ (300 : Int) < m.size) by omega) with h | ⟨h, h'⟩ | ⟨h, h', h''⟩
    all_goals
      clear h0
      go_enter Tryd.func6, Tryd.ntmps6
      go_wp2_with (fail)
      refine (lawake _ HM.out.1).mono ?_
      rintro e W1 ⟨rfl, h1⟩
      have H1 := Lib.hid h1
      clear h1
      go_wp2_with (fail)
      go_ret
      exact ⟨rfl, H1.out⟩
  · have h1' : ¬ (60 : Int) < n := by omega
    have h2' : ¬ (300 : Int) < q.size := by omega
    have h3' : ¬ (300 : Int) < m.size := by omega
    have hn60 : n ≤ 60 := by omega
    have hq3 : q.size ≤ 300 := by omega
    have hm3 : m.size ≤ 300 := by omega
    clear h0
    go_enter Tryd.func6, Tryd.ntmps6
    go_wp2_with (fail)
    go_loopw [7] (fun iv wr => (∃ k : Nat, k ≤ n ∧ iv = .int .i64 (k : Int) ∧ ∀ j x, j < k → l[j]? = some x → x.n.size ≤ 100 ∧ x.v.size ≤ 100) ∧ wr = w) (fun iv _ => n - (intOf iv).toNat)
    case atStart => exact ⟨⟨0, Nat.zero_le _, rfl, fun j x h => absurd h (by omega)⟩, rfl⟩
    case round =>
      obtain ⟨⟨k, hk, rfl, hall⟩, rfl⟩ := hrel
      by_cases hlt : k < n
      · obtain ⟨p, hp⟩ : ∃ p, l[k]? = some p := ⟨_, List.getElem?_eq_getElem (by rw [← HM.out.2.2.2.1]; exact hlt)⟩
        obtain ⟨s1, s2⟩ := HM.out.2.2.2.2 p (List.mem_of_getElem? hp)
        obtain ⟨ab, ao, rfl, hab, c0, c1, c2⟩ := cells_pair HM.out.2.1 hp
        have B := Lib.hid (And.intro hall hp)
        clear hall hp
        by_cases hbig : 100 < p.n.size ∨ 100 < p.v.size
        · rcases (show (100 : Int) < p.n.size ∨ (¬ (100 : Int) < p.n.size ∧ (100 : Int) < p.v.size) by omega) with h | ⟨h, h'⟩
          all_goals
            clear hbig
            go_wp2_with (fail)
            refine (lawake _ HM.out.1).mono ?_
            rintro e W1 ⟨rfl, h1⟩
            have H1 := Lib.hid h1
            clear h1
            go_wp2_with (fail)
            go_ret
            exact ⟨rfl, H1.out⟩
        · have h1 : ¬ (100 : Int) < p.n.size := by omega
          have h2 : ¬ (100 : Int) < p.v.size := by omega
          have HB := Lib.hid (And.intro (show p.n.size ≤ 100 by omega) (show p.v.size ≤ 100 by omega))
          clear hbig
          go_wp2_with (fail)
          go_roundw
          case rel => exact ⟨⟨k + 1, by omega, rfl, sz_step B.out.2 B.out.1 HB.out⟩, trivial⟩
          case measure => simp [intOf]; omega
      · have hk' : k = n := by omega
        subst hk'
        rw [HM.out.2.2.2.1] at hall
        have hsz : ∀ p ∈ l, p.n.size ≤ 1000000 ∧ p.v.size ≤ 1000000 := fun p hp => by
          have := sz_all hall p hp
          omega
        have B := Lib.hid hsz
        clear hall hsz
        have hl1 : l.length ≤ 1000001 := by rw [← HM.out.2.2.2.1]; omega
        have hcall := fun (W : World) => lown l hl1 A c W
        have hcall2 := fun (W : World) (A' : Option Addr) (c' : Nat) => qjoin l hl1 B.out A' c' W
        have hcall3 := fun (W : World) (A' : Option Addr) (c' : Nat) => rjoin l hl1 B.out A' c' W
        have hcall4 := fun (W : World) (A' B' : Option Addr) (c' d' : Nat) => lsame l (by omega) A' B' c' d' W
        have hA := HM.out.2.1
        have hok := HM.out.2.2.1
        rw [← HM.out.2.2.2.1] at hcall hcall2 hcall3 hcall4 hA hok
        have K := Lib.hid (And.intro hcall (And.intro hcall2 (And.intro hcall3 (And.intro hcall4 (And.intro hA hok)))))
        clear hcall hcall2 hcall3 hcall4 hA hok
        go_wp2_with (fail)
        refine (K.out.1 _ K.out.2.2.2.2.1 K.out.2.2.2.2.2).mono ?_
        rintro e W1 ⟨v, rfl, hown, h1⟩
        have hown' := own_cellsP hown
        rw [← HM.out.2.2.2.1] at hown'
        obtain ⟨A1, c1, rfl, hc1, _⟩ := hown'
        have H1 := Lib.hid (And.intro h1 (And.intro hc1 (K.out.2.2.2.2.1.below h1)))
        clear hown h1 hc1
        go_wp2_with (fail)
        refine (K.out.2.1 _ A1 c1 H1.out.2.1).mono ?_
        rintro e W2 ⟨rfl, h2⟩
        have H2 := Lib.hid (And.intro (gr_call H1.out.1 h2) (And.intro (H1.out.2.1.below h2) (H1.out.2.2.below h2)))
        clear h2
        go_wp2_with (fail)
        refine (K.out.2.2.1 _ A c H2.out.2.2).mono ?_
        rintro e W3 ⟨rfl, h3⟩
        have H3 := Lib.hid (And.intro (gr_call H2.out.1 h3) (And.intro (H2.out.2.1.below h3) (H2.out.2.2.below h3)))
        clear h3
        go_wp2_with (fail)
        refine (K.out.2.2.2.1 _ A1 A c1 c H3.out.2.1 H3.out.2.2).mono ?_
        rintro e W4 ⟨rfl, h4⟩
        have H4 := Lib.hid (gr_call H3.out.1 h4)
        clear h4
        go_wp2_with (fail)
        refine (qappend q m (by omega) (by omega) _).mono ?_
        rintro e W5 ⟨rfl, h5⟩
        have H5 := Lib.hid (gr_call H4.out h5)
        clear h5
        go_wp2_with (fail)
        refine (rappend q m (by omega) (by omega) _).mono ?_
        rintro e W6 ⟨rfl, h6⟩
        have H6 := Lib.hid (gr_call H5.out h6)
        clear h6
        go_wp2_with (fail)
        refine (lawake _ (HM.out.1.below H6.out (Nat.le_refl _))).mono ?_
        rintro e W7 ⟨rfl, h7⟩
        have H7 := Lib.hid (gr_call H6.out h7)
        clear h7
        go_wp2_with (fail)
        go_ret
        exact ⟨rfl, H7.out⟩

set_option maxRecDepth 100000 in
set_option maxHeartbeats 8000000 in
theorem law_back (l : List Pr) (A : Option Addr) (c : Nat) (q : ByteArray) (wl : ∀ p ∈ l, p.n.size ≤ 9223372036854775807 ∧ p.v.size ≤ 9223372036854775807) (wq : q.size ≤ 9223372036854775807) (w : World) (hm : MaxOk w) (hA : Cells w A 3 l.length (prAt l)) (hok : ArgOk A l.length c) :
    Calls Tryd.prog 7 #[.slice A l.length c, .string q] w fun e W' => e = .returned (.bool true) ∧ Below w.heap.size w W' := by
  obtain ⟨n, hn⟩ : ∃ n, n = l.length := ⟨_, rfl⟩
  have HM := Lib.hid (And.intro hm (And.intro hA (And.intro hok (And.intro hn wl))))
  have hnm : l.length = n := hn.symm
  rw [hnm]
  clear hm hA hok wl hn hnm
  by_cases h0 : 20 < n ∨ 128 < q.size
  · rcases (show (20 : Int) < n ∨ (¬ (20 : Int) < n ∧ (128 : Int) < q.size) by omega) with h | ⟨h, h'⟩
    all_goals
      clear h0
      go_enter Tryd.func7, Tryd.ntmps7
      go_wp2_with (fail)
      refine (lawake _ HM.out.1).mono ?_
      rintro e W1 ⟨rfl, h1⟩
      have H1 := Lib.hid h1
      clear h1
      go_wp2_with (fail)
      go_ret
      exact ⟨rfl, H1.out⟩
  · have h1' : ¬ (20 : Int) < n := by omega
    have h2' : ¬ (128 : Int) < q.size := by omega
    have hn60 : n ≤ 20 := by omega
    have hq3 : q.size ≤ 128 := by omega
    clear h0
    go_enter Tryd.func7, Tryd.ntmps7
    go_wp2_with (fail)
    go_loopw [5] (fun iv wr => (∃ k : Nat, k ≤ n ∧ iv = .int .i64 (k : Int) ∧ ∀ j x, j < k → l[j]? = some x → x.n.size ≤ 30 ∧ x.v.size ≤ 30) ∧ wr = w) (fun iv _ => n - (intOf iv).toNat)
    case atStart => exact ⟨⟨0, Nat.zero_le _, rfl, fun j x h => absurd h (by omega)⟩, rfl⟩
    case round =>
      obtain ⟨⟨k, hk, rfl, hall⟩, rfl⟩ := hrel
      by_cases hlt : k < n
      · obtain ⟨p, hp⟩ : ∃ p, l[k]? = some p := ⟨_, List.getElem?_eq_getElem (by rw [← HM.out.2.2.2.1]; exact hlt)⟩
        obtain ⟨s1, s2⟩ := HM.out.2.2.2.2 p (List.mem_of_getElem? hp)
        obtain ⟨ab, ao, rfl, hab, c0, c1, c2⟩ := cells_pair HM.out.2.1 hp
        have B := Lib.hid (And.intro hall hp)
        clear hall hp
        by_cases hbig : 30 < p.n.size ∨ 30 < p.v.size
        · rcases (show (30 : Int) < p.n.size ∨ (¬ (30 : Int) < p.n.size ∧ (30 : Int) < p.v.size) by omega) with h | ⟨h, h'⟩
          all_goals
            clear hbig
            go_wp2_with (fail)
            refine (lawake _ HM.out.1).mono ?_
            rintro e W1 ⟨rfl, h1⟩
            have H1 := Lib.hid h1
            clear h1
            go_wp2_with (fail)
            go_ret
            exact ⟨rfl, H1.out⟩
        · have h1 : ¬ (30 : Int) < p.n.size := by omega
          have h2 : ¬ (30 : Int) < p.v.size := by omega
          have HB := Lib.hid (And.intro (show p.n.size ≤ 30 by omega) (show p.v.size ≤ 30 by omega))
          clear hbig
          go_wp2_with (fail)
          go_roundw
          case rel => exact ⟨⟨k + 1, by omega, rfl, sz_step B.out.2 B.out.1 HB.out⟩, trivial⟩
          case measure => simp [intOf]; omega
      · have hk' : k = n := by omega
        subst hk'
        rw [HM.out.2.2.2.1] at hall
        have hsz : ∀ p ∈ l, p.n.size ≤ 1000000 ∧ p.v.size ≤ 1000000 := fun p hp => by
          have := sz_all hall p hp
          omega
        have B := Lib.hid hsz
        clear hall hsz
        have hl1 : l.length ≤ 1000001 := by rw [← HM.out.2.2.2.1]; omega
        have hcall := fun (W : World) => lown l hl1 A c W
        have hcall2 := fun (W : World) (A' : Option Addr) (c' : Nat) => qjoin l hl1 B.out A' c' W
        have hcall4 := fun (W : World) (A' B' : Option Addr) (c' d' : Nat) => lsame l (by omega) A' B' c' d' W
        have hA := HM.out.2.1
        have hok := HM.out.2.2.1
        rw [← HM.out.2.2.2.1] at hcall hcall2 hcall4 hA hok
        have K := Lib.hid (And.intro hcall (And.intro hcall2 (And.intro hcall4 (And.intro hA hok))))
        clear hcall hcall2 hcall4 hA hok
        go_wp2_with (fail)
        refine (K.out.1 _ K.out.2.2.2.1 K.out.2.2.2.2).mono ?_
        rintro e W1 ⟨v, rfl, hown, h1⟩
        have hown' := own_cellsP hown
        rw [← HM.out.2.2.2.1] at hown'
        obtain ⟨A1, c1, rfl, hc1, _⟩ := hown'
        have H1 := Lib.hid (And.intro h1 (And.intro hc1 (K.out.2.2.2.1.below h1)))
        clear hown h1 hc1
        go_wp2_with (fail)
        refine (K.out.2.1 _ A1 c1 H1.out.2.1).mono ?_
        rintro e W2 ⟨rfl, h2⟩
        have H2 := Lib.hid (And.intro (gr_call H1.out.1 h2) (H1.out.2.2.below h2))
        clear h2
        have hcan : canE q.data.toList = 0 → (canS q.data.toList).size ≤ 128 ∧ canE (canS q.data.toList).data.toList = 0 ∧ canS (canS q.data.toList).data.toList = canS q.data.toList ∧ decE (canS q.data.toList).data.toList = 0 ∧ decL (canS q.data.toList).data.toList = decL q.data.toList ∧ decE q.data.toList = 0 := by
          intro h
          obtain ⟨z0, z1, z2⟩ := canE_zero h
          obtain ⟨a1, a2, a3, a4⟩ := can_law h
          refine ⟨?_, a1, a2, a3, a4, z0⟩
          rw [z2, mkB_size]
          exact (joinE_zero z1).2
        have HCan := Lib.hid hcan
        clear hcan
        by_cases hj : joinE l = 0
        · obtain ⟨b1, b2⟩ := back_law hj
          have hjs : joinS l = mkB (joinL l) := by unfold joinS; rw [if_pos hj]
          have hjz : (mkB (joinL l)).size ≤ 1000000 := by rw [mkB_size]; have := (joinE_zero hj).2; omega
          rw [hj, hjs]
          rw [← mkB_data (joinL l)] at b1 b2
          have HJ := Lib.hid (And.intro b1 b2)
          clear hj hjs b1 b2
          go_wp2_with (fail)
          refine (qdecoded _ hjz _ (HM.out.1.below H2.out.1 (Nat.le_refl _))).mono ?_
          rintro e W3 ⟨v, rfl, hown, h3⟩
          rw [HJ.out.1]
          rw [HJ.out.2] at hown
          have hown' := own_cellsP hown
          rw [← HM.out.2.2.2.1] at hown'
          obtain ⟨A3, c3, rfl, hc3, _⟩ := hown'
          have H3 := Lib.hid (And.intro (gr_call H2.out.1 h3) (And.intro hc3 (H2.out.2.below h3)))
          clear hown h3 hc3
          go_wp2_with (fail)
          refine (K.out.2.2.1 _ A3 A c3 c H3.out.2.1 H3.out.2.2).mono ?_
          rintro e Wc ⟨rfl, h4⟩
          have T := Lib.hid (gr_call H3.out.1 h4)
          clear h4
          go_wp2_with (fail)
          refine (qcanonical q (by omega) _ (HM.out.1.below T.out (Nat.le_refl _))).mono ?_
          rintro e W5 ⟨rfl, h5⟩
          have H5 := Lib.hid (gr_call T.out h5)
          clear h5
          by_cases hcq : canE q.data.toList = 0
          · obtain ⟨t1, t2, t3, t4, t5, t6⟩ := HCan.out hcq
            obtain ⟨cs, hcs⟩ : ∃ cs, cs = canS q.data.toList := ⟨_, rfl⟩
            rw [← hcs] at t1 t2 t3 t4 t5
            rw [hcq, ← hcs]
            have hld := (decL_small q (by omega)).1
            have HT := Lib.hid (And.intro t2 (And.intro t3 (And.intro t4 (And.intro t5 t6))))
            clear hcq hcs t2 t3 t4 t5 t6
            go_wp2_with (fail)
            refine (qcanonical cs (by omega) _ (HM.out.1.below H5.out (Nat.le_refl _))).mono ?_
            rintro e W6 ⟨rfl, h6⟩
            rw [HT.out.1, HT.out.2.1]
            have H6 := Lib.hid (gr_call H5.out h6)
            clear h6
            go_wp2_with (fail)
            refine (qdecoded q (by omega) _ (HM.out.1.below H6.out (Nat.le_refl _))).mono ?_
            rintro e W7 ⟨v, rfl, hown, h7⟩
            rw [HT.out.2.2.2.2]
            obtain ⟨A7, c7, rfl, hc7, _⟩ := own_cellsP hown
            have H7 := Lib.hid (And.intro (gr_call H6.out h7) hc7)
            clear hown h7 hc7
            go_wp2_with (fail)
            refine (qdecoded cs (by omega) _ (HM.out.1.below H7.out.1 (Nat.le_refl _))).mono ?_
            rintro e W8 ⟨v, rfl, hown, h8⟩
            rw [HT.out.2.2.1]
            rw [HT.out.2.2.2.1] at hown
            obtain ⟨A8, c8, rfl, hc8, _⟩ := own_cellsP hown
            have H8 := Lib.hid (And.intro (gr_call H7.out.1 h8) (And.intro (H7.out.2.below h8) hc8))
            clear hown h8 hc8
            go_wp2_with (fail)
            refine (lsame _ (by omega) A7 A8 c7 c8 _ H8.out.2.1 H8.out.2.2).mono ?_
            rintro e W9 ⟨rfl, h9⟩
            have H9 := Lib.hid (gr_call H8.out.1 h9)
            clear h9
            go_wp2_with (fail)
            refine (lawake _ (HM.out.1.below H9.out (Nat.le_refl _))).mono ?_
            rintro e Wa ⟨rfl, ha⟩
            have Ha := Lib.hid (gr_call H9.out ha)
            clear ha
            go_wp2_with (fail)
            go_ret
            exact ⟨rfl, Ha.out⟩
          · have hne2 : (canE q.data.toList != 0) = true := by simpa using hcq
            clear hcq
            go_wp2_with (fail)
            refine (lawake _ (HM.out.1.below H5.out (Nat.le_refl _))).mono ?_
            rintro e W6 ⟨rfl, h6⟩
            have H6 := Lib.hid (gr_call H5.out h6)
            clear h6
            go_wp2_with (fail)
            go_ret
            exact ⟨rfl, H6.out⟩
        · have hne : (joinE l == 0) = false := by simpa using hj
          clear hj
          have T := Lib.hid H2.out.1
          go_wp2_with (fail)
          refine (qcanonical q (by omega) _ (HM.out.1.below T.out (Nat.le_refl _))).mono ?_
          rintro e W5 ⟨rfl, h5⟩
          have H5 := Lib.hid (gr_call T.out h5)
          clear h5
          by_cases hcq : canE q.data.toList = 0
          · obtain ⟨t1, t2, t3, t4, t5, t6⟩ := HCan.out hcq
            obtain ⟨cs, hcs⟩ : ∃ cs, cs = canS q.data.toList := ⟨_, rfl⟩
            rw [← hcs] at t1 t2 t3 t4 t5
            rw [hcq, ← hcs]
            have hld := (decL_small q (by omega)).1
            have HT := Lib.hid (And.intro t2 (And.intro t3 (And.intro t4 (And.intro t5 t6))))
            clear hcq hcs t2 t3 t4 t5 t6
            go_wp2_with (fail)
            refine (qcanonical cs (by omega) _ (HM.out.1.below H5.out (Nat.le_refl _))).mono ?_
            rintro e W6 ⟨rfl, h6⟩
            rw [HT.out.1, HT.out.2.1]
            have H6 := Lib.hid (gr_call H5.out h6)
            clear h6
            go_wp2_with (fail)
            refine (qdecoded q (by omega) _ (HM.out.1.below H6.out (Nat.le_refl _))).mono ?_
            rintro e W7 ⟨v, rfl, hown, h7⟩
            rw [HT.out.2.2.2.2]
            obtain ⟨A7, c7, rfl, hc7, _⟩ := own_cellsP hown
            have H7 := Lib.hid (And.intro (gr_call H6.out h7) hc7)
            clear hown h7 hc7
            go_wp2_with (fail)
            refine (qdecoded cs (by omega) _ (HM.out.1.below H7.out.1 (Nat.le_refl _))).mono ?_
            rintro e W8 ⟨v, rfl, hown, h8⟩
            rw [HT.out.2.2.1]
            rw [HT.out.2.2.2.1] at hown
            obtain ⟨A8, c8, rfl, hc8, _⟩ := own_cellsP hown
            have H8 := Lib.hid (And.intro (gr_call H7.out.1 h8) (And.intro (H7.out.2.below h8) hc8))
            clear hown h8 hc8
            go_wp2_with (fail)
            refine (lsame _ (by omega) A7 A8 c7 c8 _ H8.out.2.1 H8.out.2.2).mono ?_
            rintro e W9 ⟨rfl, h9⟩
            have H9 := Lib.hid (gr_call H8.out.1 h9)
            clear h9
            go_wp2_with (fail)
            refine (lawake _ (HM.out.1.below H9.out (Nat.le_refl _))).mono ?_
            rintro e Wa ⟨rfl, ha⟩
            have Ha := Lib.hid (gr_call H9.out ha)
            clear ha
            go_wp2_with (fail)
            go_ret
            exact ⟨rfl, Ha.out⟩
          · have hne2 : (canE q.data.toList != 0) = true := by simpa using hcq
            clear hcq
            go_wp2_with (fail)
            refine (lawake _ (HM.out.1.below H5.out (Nat.le_refl _))).mono ?_
            rintro e W6 ⟨rfl, h6⟩
            have H6 := Lib.hid (gr_call H5.out h6)
            clear h6
            go_wp2_with (fail)
            go_ret
            exact ⟨rfl, H6.out⟩
end Go.Proofs.YtfbkbnojbbpopaaDoor
