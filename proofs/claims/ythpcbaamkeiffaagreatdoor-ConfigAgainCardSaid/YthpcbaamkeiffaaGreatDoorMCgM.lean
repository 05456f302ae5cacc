/-
  ConfigAgain, walked: what is read can be written, and its text is read as the same; conditions: the tables and variables as they are laid.
-/
import Derived.Test.YthpcbaamkeiffaaGreatDoorMCpD
import Derived.Test.YthpcbaamkeiffaaGreatDoorMCgK
namespace Go.Proofs.YthpcbaamkeiffaaGreatDoor
open Go.RowKit Go.Shelf Go.Joins
set_option linter.unusedVariables false
set_option linter.unusedSimpArgs false

/-- What Parse says, in one of two ways. -/
theorem whole_two (t : ByteArray) : (∃ e a, wholeRd t = (none, e, a) ∧ e ≠ 0) ∨ ∃ s, wholeRd t = (some s, 0, 0) := by
  rcases h : wholeRd t with ⟨_ | s, e, a⟩
  · exact .inl ⟨e, a, rfl, whole_err h⟩
  · have := whole_zero h
    rw [this] at h
    exact .inr ⟨s, by rw [this]⟩
theorem tx_code {c : Cf} (h : TxSz c) {v : Value} {w : World} (hv : CfIn w v c) (hE : Env w) : Calls Tryz.prog 10 #[v] w fun e W => e = .returned (rtV (cfText c)) ∧ Below w.heap.size w W :=
  text_code c h.ok h.rows h.words h.joins v w hv hE.tabs hE.max
set_option maxRecDepth 100000 in
set_option maxHeartbeats 8000000 in
theorem law_again (t : ByteArray) (wt : t.size ≤ 9223372036854775807) (w : World) (hE : Env w) : Calls Tryz.prog 8 #[.string t] w (TrueP w) := by
  have HE := Lib.hid hE
  clear hE
  rcases Nat.lt_or_ge 1000 t.size with h0 | h0
  · have h : (1000 : Int) < t.size := by omega
    clear h0
    go_enter Tryz.func8, Tryz.ntmps8
    go_wp2_with (fail)
    refine (law_known _ HE.out).mono ?_
    rintro e W1 ⟨rfl, h1⟩
    have H1 := Lib.hid h1
    clear h1
    go_wp2_with (fail)
    go_ret
    exact ⟨rfl, H1.out⟩
  · have h : ¬ (1000 : Int) < t.size := by omega
    have hp := fun W hE => parse_code t (by omega) W hE
    have H0 := Lib.hid h0
    clear h0
    rcases whole_two t with ⟨er, at_, hw, hne⟩ | ⟨s, hw⟩
    · rw [hw] at hp
      clear hw
      go_enter Tryz.func8, Tryz.ntmps8
      go_wp2_with (fail)
      refine (law_known _ HE.out).mono ?_
      rintro e W1 ⟨rfl, h1⟩
      have H1 := Lib.hid h1
      clear h1
      go_wp2_with (fail)
      refine (hp _ (HE.out.below H1.out)).mono ?_
      rintro e W2 ⟨v, rfl, hv, h2⟩
      obtain ⟨d, r, rfl, hd, hr⟩ := hv
      obtain ⟨dA, dc, rfl⟩ := InL.slice hd
      obtain ⟨rA, rc, rfl⟩ := InL.slice hr
      have H2 := Lib.hid (gr_call H1.out h2)
      clear h2 hd hr hp
      go_wp2_with (fail)
      go_ret
      exact ⟨rfl, gr_alloc (gr_alloc H2.out _) _⟩
    · have hag := again_law hw
      have htx := read_tx hw
      rw [hw] at hp
      clear hw
      go_enter Tryz.func8, Tryz.ntmps8
      go_wp2_with (fail)
      refine (law_known _ HE.out).mono ?_
      rintro e W1 ⟨rfl, h1⟩
      have H1 := Lib.hid h1
      clear h1
      go_wp2_with (fail)
      refine (hp _ (HE.out.below H1.out)).mono ?_
      rintro e W2 ⟨v, rfl, hv, h2⟩
      replace hv : CfIn W2 v s.c := hv
      generalize s.c = c at hag htx hv ⊢
      have H2 := Lib.hid (And.intro (gr_call H1.out h2) hv)
      obtain ⟨d, r, rfl, hd, hr⟩ := hv
      obtain ⟨dA, dc, rfl⟩ := InL.slice hd
      obtain ⟨rA, rc, rfl⟩ := InL.slice hr
      clear h2 hd hr hp
      go_wp2_with (fail)
      have hb3 : Below w.heap.size w ((W2.alloc (.cells #[.int .i64 c.cap, .int .i64 c.lim, .slice dA c.dirs.length dc, .slice rA c.ros.length rc] 27)).alloc (.cells #[.int .i64 0, .int .i64 0] 33)) := gr_alloc (gr_alloc H2.out.1 _) _
      have hk4 : Blk ((W2.alloc (.cells #[.int .i64 c.cap, .int .i64 c.lim, .slice dA c.dirs.length dc, .slice rA c.ros.length rc] 27)).alloc (.cells #[.int .i64 0, .int .i64 0] 33)) W2.heap.size 27 #[.int .i64 c.cap, .int .i64 c.lim, .slice dA c.dirs.length dc, .slice rA c.ros.length rc] := (Blk.new _ _ _).alloc _
      have hc3 := H2.out.2.below (gr_alloc (gr_alloc (Below.refl _ _) (.cells #[.int .i64 c.cap, .int .i64 c.lim, .slice dA c.dirs.length dc, .slice rA c.ros.length rc] 27)) (.cells #[.int .i64 0, .int .i64 0] 33))
      have htc := tx_code htx hc3 (HE.out.below hb3)
      have K3 := Lib.hid (And.intro hb3 (And.intro hk4 hc3))
      clear hb3 hk4 hc3
      obtain ⟨b4, hb4e⟩ : ∃ b, b = W2.heap.size := ⟨_, rfl⟩
      obtain ⟨b5, hb5e⟩ : ∃ b, b = W2.heap.size + 1 := ⟨_, rfl⟩
      rw [← hb5e]
      rw [← hb4e] at K3 ⊢
      generalize ((W2.alloc (.cells #[.int .i64 c.cap, .int .i64 c.lim, .slice dA c.dirs.length dc, .slice rA c.ros.length rc] 27)).alloc (.cells #[.int .i64 0, .int .i64 0] 33)) = W3 at K3 htc ⊢
      clear hb4e hb5e
      rcases hag with ht | ⟨u, pl, ht, hul, hwu⟩
      · rw [ht] at htc
        clear ht
        obtain ⟨x, hx⟩ : ∃ x, rtV (none, 4) = .tuple #[.string x, .int .i64 4] := ⟨_, rfl⟩
        rw [hx] at htc
        refine htc.mono ?_
        rintro e W4 ⟨rfl, h4⟩
        have H4 := Lib.hid (gr_call K3.out.1 h4)
        clear h4 htc hx
        go_wp2_with (fail)
        go_ret
        exact ⟨rfl, H4.out⟩
      · rw [ht] at htc
        clear ht
        have hus : (mkB u).size ≤ 1000000 := by rw [mkB_size]; omega
        obtain ⟨x, hx, hxu⟩ : ∃ x, rtV (some u, 0) = .tuple #[.string x, .int .i64 0] ∧ x = mkB u := ⟨_, rfl, rfl⟩
        rw [← hxu] at hwu hus
        rw [hx] at htc
        have hp2 := fun W hE => parse_code x hus W hE
        rw [hwu] at hp2
        refine htc.mono ?_
        rintro e W4 ⟨rfl, h4⟩
        have hb4 := gr_call K3.out.1 h4
        have hk4 := K3.out.2.1.call h4
        have hc4 := K3.out.2.2.below h4
        clear h4 htc hx hxu hwu hus
        have K4 := Lib.hid (And.intro hb4 (And.intro hk4 hc4))
        clear hb4 hk4 hc4
        go_wp2_with (fail)
        refine (hp2 _ (HE.out.below K4.out.1)).mono ?_
        rintro e W5 ⟨v, rfl, hv, h5⟩
        replace hv : CfIn W5 v c := hv
        have hb5 := gr_call K4.out.1 h5
        have hk5 := K4.out.2.1.call h5
        have hc5 := K4.out.2.2.below h5
        have K5 := Lib.hid (And.intro hb5 (And.intro hk5 (And.intro hc5 hv)))
        obtain ⟨d2, r2, rfl, hd2, hr2⟩ := hv
        obtain ⟨eA, ec, rfl⟩ := InL.slice hd2
        obtain ⟨sA, sc, rfl⟩ := InL.slice hr2
        clear h5 hb5 hk5 hc5 hd2 hr2 hp2
        have c40 : W5.cell? ⟨b4, 0, none⟩ = some (.int .i64 c.cap) := K5.out.2.1.cell' (i := 0) rfl
        have c41 : W5.cell? ⟨b4, 1, none⟩ = some (.int .i64 c.lim) := K5.out.2.1.cell' (i := 1) rfl
        have c42 : W5.cell? ⟨b4, 2, none⟩ = some (.slice dA c.dirs.length dc) := K5.out.2.1.cell' (i := 2) rfl
        have c43 : W5.cell? ⟨b4, 3, none⟩ = some (.slice rA c.ros.length rc) := K5.out.2.1.cell' (i := 3) rfl
        have c4l := K5.out.2.1.lt
        have hq := fun er a W => eqFt er a W
        go_wp2_with (fail)
        have hA5 := K5.out.2.2.2.below (gr_alloc (gr_alloc (Below.refl _ _) (.cells #[.int .i64 c.cap, .int .i64 c.lim, .slice eA c.dirs.length ec, .slice sA c.ros.length sc] 27)) (.cells #[.int .i64 0, .int .i64 0] 33))
        have hB5 := K5.out.2.2.1.below (gr_alloc (gr_alloc (Below.refl _ _) (.cells #[.int .i64 c.cap, .int .i64 c.lim, .slice eA c.dirs.length ec, .slice sA c.ros.length sc] 27)) (.cells #[.int .i64 0, .int .i64 0] 33))
        refine (same_code c htx.sz _ _ _ hA5 hB5).mono ?_
        rintro e W6 ⟨rfl, h6⟩
        have Z := Lib.hid (gr_call (gr_alloc (gr_alloc K5.out.1 (.cells #[.int .i64 c.cap, .int .i64 c.lim, .slice eA c.dirs.length ec, .slice sA c.ros.length sc] 27)) (.cells #[.int .i64 0, .int .i64 0] 33)) h6)
        clear h6 hA5 hB5 c40 c41 c42 c43 c4l hq
        go_wp2_with (fail)
        go_ret
        exact ⟨rfl, Z.out⟩
end Go.Proofs.YthpcbaamkeiffaaGreatDoor
