/-
  The law's awake, walked: it returns true; conditions: the tables and variables as they are laid.
-/
import Derived.Test.YthpcbaamkeiffaaGreatDoorMCfF
import Derived.Test.YthpcbaamkeiffaaGreatDoorMCfG
namespace Go.Proofs.YthpcbaamkeiffaaGreatDoor
open Go.RowKit Go.Shelf Go.Joins
set_option linter.unusedVariables false
set_option linter.unusedSimpArgs false

theorem sh_ok : CfOk shCf := ⟨by unfold I64; decide, by unfold I64; decide, by decide, by decide, fun d hd => by simp [shCf] at hd; subst hd; exact ⟨by unfold I64; decide, by decide, fun r hr => by simp [shDr] at hr; subst hr; unfold I64; decide, fun r hr => by simp [shDr] at hr; subst hr; decide⟩, fun r hr => by cases hr⟩
theorem sh_sz : CfSz shCf := ⟨by decide, by decide, fun d hd => by simp [shCf] at hd; subst hd; exact ⟨by decide, fun r hr => by simp [shDr] at hr; subst hr; decide⟩, fun r hr => by cases hr⟩
theorem sh_rows : ∀ r ∈ cfRows shCf, r.w.length ≤ 100000 ∧ ∀ d ∈ r.w, d.t.size ≤ 100000 := by
  have h : (cfRows shCf).all (fun r => decide (r.w.length ≤ 100000) && r.w.all (fun d => decide (d.t.size ≤ 100000))) = true := by decide +kernel
  intro r hr
  have := List.all_eq_true.1 h r hr
  rw [Bool.and_eq_true, decide_eq_true_eq, List.all_eq_true] at this
  exact ⟨this.1, fun d hd => of_decide_eq_true (this.2 d hd)⟩
theorem sh_code {W : World} (hE : Env W) {v : Value} (hv : CfIn W v shCf) : Calls Tryz.prog 10 #[v] W fun e W' => e = .returned (.tuple #[.string ⟨#[99, 97, 112, 32, 57, 10, 108, 105, 109, 105, 116, 32, 53, 10, 100, 105, 114, 32, 47, 32, 97, 108, 111, 110, 101, 10, 114, 117, 108, 101, 32, 94, 47, 97, 36, 32, 47, 98, 32, 91, 76, 93, 10]⟩, .int .i64 0]) ∧ Below W.heap.size W W' := by
  refine (text_code shCf sh_ok (by decide +kernel) sh_rows (fun r hr => by cases hr) v W hv hE.tabs hE.max).mono ?_
  rintro e W' ⟨rfl, hb⟩
  refine ⟨?_, hb⟩
  rw [sh_text]
  rfl
theorem sh_parse {W : World} (hE : Env W) : Calls Tryz.prog 11 #[.string ⟨#[99, 97, 112, 32, 57, 10, 108, 105, 109, 105, 116, 32, 53, 10, 100, 105, 114, 32, 47, 32, 97, 108, 111, 110, 101, 10, 114, 117, 108, 101, 32, 94, 47, 97, 36, 32, 47, 98, 32, 91, 76, 93, 10]⟩] W (ParP W (some ⟨shCf, [], [26]⟩, 0, 0)) := by
  have h := parse_code shT (by decide) W hE
  rw [sh_whole] at h
  exact h
theorem sh_places {W : World} (hE : Env W) : Calls Tryz.prog 12 #[.string ⟨#[99, 97, 112, 32, 57, 10, 108, 105, 109, 105, 116, 32, 53, 10, 100, 105, 114, 32, 47, 32, 97, 108, 111, 110, 101, 10, 114, 117, 108, 101, 32, 94, 47, 97, 36, 32, 47, 98, 32, 91, 76, 93, 10]⟩] W (PlaP W (some ⟨shCf, [], [26]⟩, 0, 0)) := by
  have h := places_code shT (by decide) W hE
  rw [sh_whole] at h
  exact h
theorem ints_blk {W : World} {g : Nat} {cs : Array Value} (h : Blk W g 3 cs) (l : List Int) (hl : cs = (l.map (Value.int .i64)).toArray) : Cells W (some ⟨g, 0, none⟩) 1 l.length (intsAt l) := by
  intro _
  refine ⟨g, 0, rfl, h.lt, fun i j hi hj => ?_⟩
  have : j = 0 := by omega
  subst this
  rw [Nat.mul_one, Nat.add_zero, Nat.zero_add]
  refine h.cell' ?_
  rw [hl]
  simp [intsAt, List.getD_eq_getElem?_getD, List.getElem?_eq_getElem hi]
theorem same_26 {W : World} {A B : Option Addr} {c d : Nat} (hA : Cells W A 1 ([26] : List Int).length (intsAt [26])) (hB : Cells W B 1 ([26] : List Int).length (intsAt [26])) : Calls Tryz.prog 25 #[.slice A 1 c, .slice B 1 d] W (TrueP W) := by
  refine (sameInts [26] [26] A B c d (by decide) (by decide) W hA hB).mono ?_
  rintro e W' ⟨rfl, h⟩
  exact ⟨rfl, h⟩
theorem fails_9 {W : World} (hE : Env W) : Calls Tryz.prog 32 #[.string ⟨#[99, 97, 112, 32, 57]⟩, .int .i64 8, .int .i64 5] W (TrueP W) := law_fails ⟨#[99, 97, 112, 32, 57]⟩ (by decide) 8 5 W hE cap9
set_option maxRecDepth 100000 in
set_option maxHeartbeats 8000000 in
theorem law_awake (w : World) (hE : Env w) : Calls Tryz.prog 19 #[] w (TrueP w) := by
  have HE := Lib.hid hE
  clear hE
  have hq := fun er a W => eqFt er a W
  go_enter Tryz.func19, Tryz.ntmps19
  go_wp2_with (fail)
  refine (shown_code _).mono ?_
  rintro e W1 ⟨gr, gd, rfl, h1, h2, hb1⟩
  have ht := sh_code (HE.out.below hb1) (sh_in (w := w) h1 h2)
  have B1 := Lib.hid hb1
  clear h1 h2 hb1
  go_wp2_with (fail)
  refine ht.mono ?_
  rintro e W2 ⟨rfl, hb2⟩
  clear ht
  have B2 := Lib.hid (gr_call B1.out hb2)
  have hp := sh_parse (HE.out.below B2.out)
  clear hb2
  go_wp2_with (fail)
  refine hp.mono ?_
  rintro e W3 ⟨v, rfl, hv, hb3⟩
  clear hp
  have hcf : CfIn W3 v shCf := hv
  obtain ⟨dv, rv, rfl, hd, hr⟩ := hcf
  obtain ⟨dA, dc, rfl⟩ := InL.slice hd
  obtain ⟨rA, rc, rfl⟩ := InL.slice hr
  have B3 := Lib.hid (And.intro (gr_call B2.out hb3) hv)
  have hb4 : Below w.heap.size w ((W3.alloc (.cells #[.int .i64 shCf.cap, .int .i64 shCf.lim, .slice dA shCf.dirs.length dc, .slice rA shCf.ros.length rc] 27)).alloc (.cells #[.int .i64 0, .int .i64 0] 33)) := gr_alloc (gr_alloc B3.out.1 _) _
  have hl := sh_places (HE.out.below hb4)
  have hk3 : Blk ((W3.alloc (.cells #[.int .i64 shCf.cap, .int .i64 shCf.lim, .slice dA shCf.dirs.length dc, .slice rA shCf.ros.length rc] 27)).alloc (.cells #[.int .i64 0, .int .i64 0] 33)) W3.heap.size 27 #[.int .i64 shCf.cap, .int .i64 shCf.lim, .slice dA shCf.dirs.length dc, .slice rA shCf.ros.length rc] := (Blk.new _ _ _).alloc _
  have hk4 : Blk ((W3.alloc (.cells #[.int .i64 shCf.cap, .int .i64 shCf.lim, .slice dA shCf.dirs.length dc, .slice rA shCf.ros.length rc] 27)).alloc (.cells #[.int .i64 0, .int .i64 0] 33)) (W3.heap.size + 1) 33 #[.int .i64 0, .int .i64 0] := blk_at (by simp)
  have K := Lib.hid (And.intro hb4 (And.intro hk3 hk4))
  clear hd hr hb3 hv hb4 hk3 hk4
  go_wp2_with (fail)
  refine hl.mono ?_
  rintro e W4 ⟨A, c, rfl, hA, hb5⟩
  clear hl
  have hb6 := gr_call K.out.1 hb5
  have hk3 := K.out.2.1.call hb5
  have hk4 := K.out.2.2.call hb5
  have hc3 := B3.out.2.below (gr_call (gr_alloc (gr_alloc (Below.refl _ _) _) _) hb5)
  obtain ⟨b3, hb3e⟩ : ∃ b, b = W3.heap.size := ⟨_, rfl⟩
  obtain ⟨b4, hb4e⟩ : ∃ b, b = W3.heap.size + 1 := ⟨_, rfl⟩
  rw [← hb4e] at hk4 ⊢
  rw [← hb3e] at hk3 ⊢
  have hA1 : Cells W4 A 1 ([26] : List Int).length (intsAt [26]) := hA
  have hbA := gr_alloc hb6 (.cells #[.int .i64 0, .int .i64 0] 33)
  have K2 := Lib.hid (And.intro hb6 (And.intro hk3 (And.intro hk4 (And.intro hA1 (And.intro hc3 hbA)))))
  clear hb5 hb6 hk3 hk4 hA hA1 hb3e hb4e hc3 hbA
  go_wp2_with (fail)
  have hk6 : Blk (W4.alloc (.cells #[.int .i64 0, .int .i64 0] 33)) W4.heap.size 33 #[.int .i64 0, .int .i64 0] := Blk.new _ _ _
  have hk3 := K2.out.2.1.alloc (.cells #[.int .i64 0, .int .i64 0] 33)
  have hk4 := K2.out.2.2.1.alloc (.cells #[.int .i64 0, .int .i64 0] 33)
  have hA5 := K2.out.2.2.2.1.below (gr_alloc (Below.refl W4.heap.size W4) (.cells #[.int .i64 0, .int .i64 0] 33))
  have hc5 := K2.out.2.2.2.2.1.below (gr_alloc (Below.refl W4.heap.size W4) (.cells #[.int .i64 0, .int .i64 0] 33))
  have hb5 := K2.out.2.2.2.2.2
  obtain ⟨b6, hb6e⟩ : ∃ b, b = W4.heap.size := ⟨_, rfl⟩
  rw [← hb6e] at hk6 ⊢
  generalize (W4.alloc (.cells #[.int .i64 0, .int .i64 0] 33)) = W5 at hk6 hk3 hk4 hA5 hc5 hb5 ⊢
  have c40 : W5.cell? ⟨b4, 0, none⟩ = some (.int .i64 0) := hk4.cell' (i := 0) rfl
  have c41 : W5.cell? ⟨b4, 1, none⟩ = some (.int .i64 0) := hk4.cell' (i := 1) rfl
  have c4l := hk4.lt
  have c30 : W5.cell? ⟨b3, 0, none⟩ = some (.int .i64 shCf.cap) := hk3.cell' (i := 0) rfl
  have c31 : W5.cell? ⟨b3, 1, none⟩ = some (.int .i64 shCf.lim) := hk3.cell' (i := 1) rfl
  have c32 : W5.cell? ⟨b3, 2, none⟩ = some (.slice dA shCf.dirs.length dc) := hk3.cell' (i := 2) rfl
  have c33 : W5.cell? ⟨b3, 3, none⟩ = some (.slice rA shCf.ros.length rc) := hk3.cell' (i := 3) rfl
  have c3l := hk3.lt
  have K5 := Lib.hid (And.intro hb5 (And.intro hk3 (And.intro hk6 (And.intro hA5 hc5))))
  clear hb5 hk3 hk4 hk6 hA5 hc5 hb6e
  go_region_with (first
    | (go_at_call 31; refine (shown_code _).mono ?_; rintro e W6 ⟨gr2, gd2, rfl, s1, s2, hs⟩
       have hs0 : Below W5.heap.size W5 W6 := (by first | exact hs | exact gr_call (gr_drew (Below.refl _ _)) hs)
       have y30 : W6.cell? ⟨b3, 0, none⟩ = some (.int .i64 shCf.cap) := (K5.out.2.1.call hs0).cell' (i := 0) rfl
       have y31 : W6.cell? ⟨b3, 1, none⟩ = some (.int .i64 shCf.lim) := (K5.out.2.1.call hs0).cell' (i := 1) rfl
       have y32 : W6.cell? ⟨b3, 2, none⟩ = some (.slice dA shCf.dirs.length dc) := (K5.out.2.1.call hs0).cell' (i := 2) rfl
       have y33 : W6.cell? ⟨b3, 3, none⟩ = some (.slice rA shCf.ros.length rc) := (K5.out.2.1.call hs0).cell' (i := 3) rfl
       have y3l := (K5.out.2.1.call hs0).lt)
    | (go_at_call 13; refine (same_code shCf sh_sz _ _ W6 (K5.out.2.2.2.2.below hs0) (sh_in (w := w) s1 s2)).mono ?_; rintro e W7 ⟨rfl, h7⟩
       have h70 := gr_call hs0 h7
       have y60 : W7.cell? ⟨b6, 0, none⟩ = some (.int .i64 0) := (K5.out.2.2.1.call h70).cell' (i := 0) rfl
       have y61 : W7.cell? ⟨b6, 1, none⟩ = some (.int .i64 0) := (K5.out.2.2.1.call h70).cell' (i := 1) rfl
       have y6l := (K5.out.2.2.1.call h70).lt)
    | (go_at_call 25; refine (same_26 (K5.out.2.2.2.1.below (gr_alloc h70 _)) (ints_blk (Blk.new _ _ _) [26] rfl)).mono ?_; rintro e W8 ⟨rfl, h8⟩
       have h80 := gr_call (gr_alloc h70 _) h8)
    | (go_at_call 32; refine (fails_9 (HE.out.below (gr_call K5.out.1 h80))).mono ?_; rintro e W9 ⟨rfl, h9⟩
       have h90 := gr_call h80 h9))
  all_goals
    have Z := Lib.hid (gr_call K5.out.1 h90)
    clear h90 h80 h70 hs0 h9 h8 h7 hs s1 s2 c40 c41 c4l c30 c31 c32 c33 c3l y30 y31 y32 y33 y3l y60 y61 y6l
    go_wp2_with (fail)
    go_ret
    exact ⟨rfl, Z.out⟩
end Go.Proofs.YthpcbaamkeiffaaGreatDoor
