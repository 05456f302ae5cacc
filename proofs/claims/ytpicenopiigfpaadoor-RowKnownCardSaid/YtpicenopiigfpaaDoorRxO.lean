/-
  RowKnown, walked: it returns true; conditions: the two sentinels hold interface values, the table of powers lies as it is laid.
-/
import Derived.Test.YtpicenopiigfpaaDoorRxM
import Derived.Test.YtpicenopiigfpaaDoorRwV
namespace Go.Proofs.YtpicenopiigfpaaDoor
open Go.RowKit
set_option linter.unusedVariables false
set_option linter.unusedSimpArgs false

theorem words_blk {W : World} {g : Nat} {ws : List Wd} {c : Nat} (h : Blk W g 41 (wdsC ws).toArray) : WordsIn W (.slice (some ⟨g, 0, none⟩) ws.length c) ws :=
  ⟨_, _, rfl, fun h => (by cases h), fun _ => ⟨g, 0, rfl, h.lt, fun i j hi hj => by
    have ht : i * 3 + j < ws.length * 3 := row_lt hi hj
    rw [Nat.zero_add]
    have := wdsC_at ws (i * 3 + j) ht
    rw [show (i * 3 + j) / 3 = i by omega, show (i * 3 + j) % 3 = j by omega] at this
    exact h.cell' (by rw [List.getElem?_toArray]; exact this)⟩⟩
theorem lsameW (l : List Wd) (hl : l.length ≤ 100000000) (v u : Value) (w : World) (hv : WordsIn w v l) (hu : WordsIn w u l) :
    Calls Tryd.prog 17 #[v, u] w fun e W' => e = .returned (.bool true) ∧ Below w.heap.size w W' :=
  (lsameWords l hl v u w hv hu).mono fun e W' ⟨h1, q, h2⟩ => ⟨h1, by rw [h2]; exact below_drewN (Below.refl _ _) q⟩
theorem txAt_three {W : World} (a b d : ByteArray) {g : Nat} (h : Blk W g 9 #[.string a, .string b, .string d]) (c : Nat) : TextsIn W (.slice (some ⟨g, 0, none⟩) 3 c) [a, b, d] :=
  ⟨_, _, rfl, fun h => (by cases h), fun _ => ⟨g, 0, rfl, h.lt, fun i j hi hj => by
    have : j = 0 := by omega
    subst this
    match i, hi with
    | 0, _ => exact h.cell' rfl
    | 1, _ => exact h.cell' rfl
    | 2, _ => exact h.cell' rfl⟩⟩
set_option maxRecDepth 100000 in
set_option maxHeartbeats 1000000 in
theorem lfaulty (s : ByteArray) (hs : s.size ≤ 1000) (hr : rowsR s.data.toList = (none, 3, 0)) (w : World) (hE : ErrV w 0) :
    Calls Tryd.prog 29 #[.string s] w fun e W' => e = .returned (.bool true) ∧ Below w.heap.size w W' := by
  have h := wrows s (by omega) w hE
  rw [hr] at h
  have hq := fun W => eqFault 3 0 W
  have H := Lib.hid h
  clear h hr hE
  go_enter Tryd.func29, Tryd.ntmps29
  go_wp2_with (fail)
  refine H.out.mono ?_
  rintro e W1 ⟨v, rfl, o1, g1⟩
  obtain ⟨va, vc, rfl⟩ := o1.slice
  have G := Lib.hid g1
  clear o1 g1
  go_wp2_with (fail)
  go_ret
  exact ⟨rfl, gr_alloc G.out _⟩
set_option maxRecDepth 100000 in
set_option maxHeartbeats 1000000 in
theorem lnumber (s : ByteArray) (lo hi v e r : Int) (hs : s.size ≤ 1000) (hn : numR s.data.toList lo hi = (v, e)) (hx : e = 0 ∧ r = v ∨ (e == 0) = false ∧ 0 ≤ e ∧ e ≤ 100 ∧ r = 1000 + e) (w : World) (hw : NumOk w) :
    Calls Tryd.prog 31 #[.string s, .int .i64 lo, .int .i64 hi] w fun e W' => e = .returned (.int .i64 r) ∧ Below w.heap.size w W' := by
  have h := wNumber s lo hi (by omega) w hw
  rw [hn] at h
  have H := Lib.hid h
  clear h hn hw
  rcases hx with ⟨rfl, rfl⟩ | ⟨h0, h1, h2, rfl⟩
  all_goals
    go_enter Tryd.func31, Tryd.ntmps31
    go_wp2_with (fail)
    refine H.out.mono ?_
    unfold numV
    rintro x W1 ⟨rfl, g1⟩
    have G := Lib.hid g1
    clear g1
    go_wp2_with (fail)
    go_ret
    exact ⟨rfl, G.out⟩

theorem kr0 : rowsR (⟨#[100, 105, 114, 32, 47, 97, 32, 32, 35, 32, 97, 108, 108, 10, 114, 117, 108, 101, 32, 34, 120, 32, 121, 34, 32, 92, 100, 43]⟩ : ByteArray).data.toList = (some [⟨0, [⟨0, ⟨#[100, 105, 114]⟩, false⟩, ⟨4, ⟨#[47, 97]⟩, false⟩]⟩, ⟨14, [⟨14, ⟨#[114, 117, 108, 101]⟩, false⟩, ⟨19, ⟨#[120, 32, 121]⟩, true⟩, ⟨25, ⟨#[92, 100, 43]⟩, false⟩]⟩], 0, 0) := by decide +kernel
theorem kr1 : rowsR (⟨#[]⟩ : ByteArray).data.toList = (some [], 0, 0) := by decide +kernel
theorem kf0 : rowsR (⟨#[34, 97]⟩ : ByteArray).data.toList = (none, 3, 0) := by decide +kernel
theorem kf1 : rowsR (⟨#[97, 34, 98]⟩ : ByteArray).data.toList = (none, 3, 0) := by decide +kernel
theorem kf2 : rowsR (⟨#[34, 97, 34, 98]⟩ : ByteArray).data.toList = (none, 3, 0) := by decide +kernel
theorem kf3 : rowsR (⟨#[195, 169]⟩ : ByteArray).data.toList = (none, 3, 0) := by decide +kernel
theorem kd0 : rowsR (⟨#[97, 9, 35, 98]⟩ : ByteArray).data.toList = (some [⟨0, [⟨0, ⟨#[97]⟩, false⟩]⟩], 0, 0) := by decide +kernel
theorem kd1 : rowsR (⟨#[97, 35, 98]⟩ : ByteArray).data.toList = (some [⟨0, [⟨0, ⟨#[97, 35, 98]⟩, false⟩]⟩], 0, 0) := by decide +kernel
theorem kw0 : mkB (wrW (⟨#[47, 97]⟩ : ByteArray).data.toList) = ⟨#[47, 97]⟩ := by decide +kernel
theorem kw1 : mkB (wrW (⟨#[35, 97]⟩ : ByteArray).data.toList) = ⟨#[34, 35, 97, 34]⟩ := by decide +kernel
theorem kw2 : mkB (wrW (⟨#[97, 34, 92]⟩ : ByteArray).data.toList) = ⟨#[34, 97, 92, 34, 92, 92, 34]⟩ := by decide +kernel
theorem kw3 : mkB (wrW (⟨#[]⟩ : ByteArray).data.toList) = ⟨#[34, 34]⟩ := by decide +kernel
theorem kw4 : mkB (wrW (⟨#[10]⟩ : ByteArray).data.toList) = ⟨#[34, 92, 120, 48, 97, 34]⟩ := by decide +kernel
theorem kh0 : whI [⟨#[97]⟩, ⟨#[98]⟩, ⟨#[98]⟩] ⟨#[98]⟩ = (1, 0) := by decide +kernel
theorem kh1 : whI [⟨#[97]⟩, ⟨#[98]⟩] ⟨#[99]⟩ = (0, 11) := by decide +kernel
theorem kn0 : numR (⟨#[48, 55]⟩ : ByteArray).data.toList (0) (9) = (0, 3) := by decide +kernel
theorem kn1 : numR (⟨#[45, 51]⟩ : ByteArray).data.toList (-5) (5) = (-3, 0) := by decide +kernel
theorem kn2 : numR (⟨#[45, 48]⟩ : ByteArray).data.toList (0) (9) = (0, 3) := by decide +kernel
theorem kn3 : numR (⟨#[49, 50]⟩ : ByteArray).data.toList (0) (9) = (0, 2) := by decide +kernel

set_option maxRecDepth 100000 in
set_option maxHeartbeats 16000000 in
theorem law_known (w : World) (hN : NumOk w) :
    Calls Tryd.prog 9 #[] w fun e W' => e = .returned (.bool true) ∧ Below w.heap.size w W' := by
  have HN := Lib.hid hN
  clear hN
  have c0 := wrows ⟨#[100, 105, 114, 32, 47, 97, 32, 32, 35, 32, 97, 108, 108, 10, 114, 117, 108, 101, 32, 34, 120, 32, 121, 34, 32, 92, 100, 43]⟩ (by decide) w HN.out.e0
  rw [kr0] at c0
  have H0 := Lib.hid c0
  clear c0
  have hq := fun W => eqFault 0 0 W
  go_enter Tryd.func9, Tryd.ntmps9
  go_wp2_with (fail)
  refine H0.out.mono ?_
  rintro e W1 ⟨v, rfl, o1, g1⟩
  have hin := o1.in_
  obtain ⟨A, c, vs, rfl, _, hA, hvs, hws⟩ := hin
  match vs, hvs with
  | [u0, u1], _ =>
  obtain ⟨ab, ao, rfl, hab, a0, a1⟩ := cells_rw hA (k := 0) rfl rfl
  obtain ⟨ab', ao', he, _, a2, a3⟩ := cells_rw hA (k := 1) rfl rfl
  cases he
  have w0 : WordsIn W1 u0 [⟨0, ⟨#[100, 105, 114]⟩, false⟩, ⟨4, ⟨#[47, 97]⟩, false⟩] := hws 0 _ u0 rfl rfl
  have w1 : WordsIn W1 u1 [⟨14, ⟨#[114, 117, 108, 101]⟩, false⟩, ⟨19, ⟨#[120, 32, 121]⟩, true⟩, ⟨25, ⟨#[92, 100, 43]⟩, false⟩] := hws 1 _ u1 rfl rfl
  obtain ⟨B0, d0, rfl, _⟩ := w0
  obtain ⟨B1, d1, rfl, _⟩ := w1
  have w0 : WordsIn W1 (.slice B0 2 d0) [⟨0, ⟨#[100, 105, 114]⟩, false⟩, ⟨4, ⟨#[47, 97]⟩, false⟩] := hws 0 _ _ rfl rfl
  have w1 : WordsIn W1 (.slice B1 3 d1) [⟨14, ⟨#[114, 117, 108, 101]⟩, false⟩, ⟨19, ⟨#[120, 32, 121]⟩, true⟩, ⟨25, ⟨#[92, 100, 43]⟩, false⟩] := hws 1 _ _ rfl rfl
  have a0' : W1.cell? ⟨ab, ao, none⟩ = some (.int .i64 0) := by simpa using a0
  have a1' : W1.cell? ⟨ab, ao + 1, none⟩ = some (.slice B0 2 d0) := by simpa using a1
  have a2' : W1.cell? ⟨ab, ao + 2, none⟩ = some (.int .i64 14) := by simpa using a2
  have a3' : W1.cell? ⟨ab, ao + 3, none⟩ = some (.slice B1 3 d1) := by simpa using a3
  have i1 := gr_alloc (Below.refl W1.heap.size W1) (.cells #[.int .i64 0, .int .i64 0] 26)
  have F1 := Lib.hid (And.intro (Blk.new W1 26 #[.int .i64 0, .int .i64 0]) (And.intro w0 (And.intro w1 (And.intro g1 i1))))
  have A1 := Lib.hid (And.intro a0' (And.intro a1' (And.intro a2' a3')))
  clear hA hws w0 w1 a0 a1 a2 a3 g1 i1 o1
  go_wp2_with (fail)
  have i2 := gr_alloc F1.out.2.2.2.2 (.cells (wdsC [⟨0, ⟨#[100, 105, 114]⟩, false⟩, ⟨4, ⟨#[47, 97]⟩, false⟩]).toArray 41)
  refine (lsameW [⟨0, ⟨#[100, 105, 114]⟩, false⟩, ⟨4, ⟨#[47, 97]⟩, false⟩] (by simp) (.slice B0 2 d0) (.slice (some ⟨W1.heap.size + 1, 0, none⟩) 2 2) _ (F1.out.2.1.below i2) (words_blk (ws := [⟨0, ⟨#[100, 105, 114]⟩, false⟩, ⟨4, ⟨#[47, 97]⟩, false⟩]) (blk_at (by simp)))).mono ?_
  rintro e W2 ⟨rfl, g2⟩
  have b2 := gr_call i2 g2
  have t2 := ((bcell b2).1 ab (ao + 3) hab).trans A1.out.2.2.2
  have F2 := Lib.hid (And.intro (F1.out.1.call (gr_call (gr_alloc (Below.refl _ _) _) g2)) (And.intro (F1.out.2.2.1.below b2) b2))
  clear i2 g2 b2 a0' a1' a2' a3'
  go_wp2_with (fail)
  have i3 := gr_alloc (Below.refl W2.heap.size W2) (.cells (wdsC [⟨14, ⟨#[114, 117, 108, 101]⟩, false⟩, ⟨19, ⟨#[120, 32, 121]⟩, true⟩, ⟨25, ⟨#[92, 100, 43]⟩, false⟩]).toArray 41)
  refine (lsameW [⟨14, ⟨#[114, 117, 108, 101]⟩, false⟩, ⟨19, ⟨#[120, 32, 121]⟩, true⟩, ⟨25, ⟨#[92, 100, 43]⟩, false⟩] (by simp) (.slice B1 3 d1) (.slice (some ⟨W2.heap.size, 0, none⟩) 3 3) _ (F2.out.2.1.below i3) (words_blk (ws := [⟨14, ⟨#[114, 117, 108, 101]⟩, false⟩, ⟨19, ⟨#[120, 32, 121]⟩, true⟩, ⟨25, ⟨#[92, 100, 43]⟩, false⟩]) (blk_at (by simp)))).mono ?_
  rintro e W3 ⟨rfl, g3⟩
  have j3 := gr_call i3 g3
  have b3 := gr_call F2.out.2.2 j3
  have t0 := ((bcell b3).1 ab ao hab).trans A1.out.1
  have t2' := ((bcell b3).1 ab (ao + 2) hab).trans A1.out.2.2.1
  have B3 := gr_call F1.out.2.2.2.1 b3
  have F3 := Lib.hid (And.intro (F2.out.1.call j3) (And.intro B3 (HN.out.below B3)))
  clear i3 g3 j3 b3 t2 B3
  go_wp2_with (fail)
  have hz1 := F1.out.2.2.2.1.size
  have c4 := wrows (⟨#[]⟩ : ByteArray) (by decide) W3 F3.out.2.2.e0
  rw [kr1] at c4
  refine c4.mono ?_
  rintro e W4 ⟨v4, rfl, o4, g4⟩
  obtain ⟨x4, y4, rfl⟩ := o4.slice
  have b4 := F3.out.1.call g4
  have f0 := b4.frozen 0
  have f1 := b4.frozen 1
  have e0 := b4.cell' (i := 0) (v := .int .i64 0) rfl
  have e1 := b4.cell' (i := 1) (v := .int .i64 0) rfl
  have z4 := b4.lt
  have X4 := gr_set (gr_set (gr_call F3.out.2.1 g4) (p := ⟨W1.heap.size, 0, none⟩) hz1 (.int .i64 0)) (p := ⟨W1.heap.size, 1, none⟩) hz1 (.int .i64 0)
  have F4 := Lib.hid (And.intro X4 (HN.out.below X4))
  clear c4 o4 g4 b4 X4 t0 t2'
  go_wp2_with (fail)
  refine (lfaulty (⟨#[34, 97]⟩ : ByteArray) (by decide) kf0 _ F4.out.2.e0).mono ?_
  rintro e W5 ⟨rfl, g⟩
  have B5 := gr_call F4.out.1 g
  have F5 := Lib.hid (And.intro B5 (HN.out.below B5))
  clear B5 g e0 e1 f0 f1 z4
  go_wp2_with (fail)
  refine (lfaulty (⟨#[97, 34, 98]⟩ : ByteArray) (by decide) kf1 _ F5.out.2.e0).mono ?_
  rintro e W6 ⟨rfl, g⟩
  have B6 := gr_call F5.out.1 g
  have F6 := Lib.hid (And.intro B6 (HN.out.below B6))
  clear B6 g
  go_wp2_with (fail)
  refine (lfaulty (⟨#[34, 97, 34, 98]⟩ : ByteArray) (by decide) kf2 _ F6.out.2.e0).mono ?_
  rintro e W7 ⟨rfl, g⟩
  have B7 := gr_call F6.out.1 g
  have F7 := Lib.hid (And.intro B7 (HN.out.below B7))
  clear B7 g
  go_wp2_with (fail)
  refine (lfaulty (⟨#[195, 169]⟩ : ByteArray) (by decide) kf3 _ F7.out.2.e0).mono ?_
  rintro e W8 ⟨rfl, g⟩
  have B8 := gr_call F7.out.1 g
  have F8 := Lib.hid (And.intro B8 (HN.out.below B8))
  clear B8 g
  go_wp2_with (fail)
  have ia := gr_alloc F8.out.1 (.cells #[.string (⟨#[97]⟩ : ByteArray)] 9)
  refine (lreads (⟨#[97, 9, 35, 98]⟩ : ByteArray) (by decide) _ [⟨#[97]⟩] (by decide) kd0 rfl _ _ (txAt_one _ (blk_at rfl) _) (HN.out.below ia).e0).mono ?_
  rintro e W9 ⟨rfl, g⟩
  have B9 := gr_call ia g
  have F9 := Lib.hid (And.intro B9 (HN.out.below B9))
  clear B9 g ia
  go_wp2_with (fail)
  have ia := gr_alloc F9.out.1 (.cells #[.string (⟨#[97, 35, 98]⟩ : ByteArray)] 9)
  refine (lreads (⟨#[97, 35, 98]⟩ : ByteArray) (by decide) _ [⟨#[97, 35, 98]⟩] (by decide) kd1 rfl _ _ (txAt_one _ (blk_at rfl) _) (HN.out.below ia).e0).mono ?_
  rintro e W10 ⟨rfl, g⟩
  have B10 := gr_call ia g
  have F10 := Lib.hid (And.intro B10 (HN.out.below B10))
  clear B10 g ia
  go_wp2_with (fail)
  have cw := fun W => wWrite (⟨#[47, 97]⟩ : ByteArray) W (by decide)
  rw [kw0] at cw
  refine (cw _).mono ?_
  rintro e W11 ⟨rfl, g⟩
  have B11 := gr_call F10.out.1 g
  have F11 := Lib.hid (And.intro B11 (HN.out.below B11))
  clear B11 g cw
  go_wp2_with (fail)
  have cw := fun W => wWrite (⟨#[35, 97]⟩ : ByteArray) W (by decide)
  rw [kw1] at cw
  refine (cw _).mono ?_
  rintro e W12 ⟨rfl, g⟩
  have B12 := gr_call F11.out.1 g
  have F12 := Lib.hid (And.intro B12 (HN.out.below B12))
  clear B12 g cw
  go_wp2_with (fail)
  have cw := fun W => wWrite (⟨#[97, 34, 92]⟩ : ByteArray) W (by decide)
  rw [kw2] at cw
  refine (cw _).mono ?_
  rintro e W13 ⟨rfl, g⟩
  have B13 := gr_call F12.out.1 g
  have F13 := Lib.hid (And.intro B13 (HN.out.below B13))
  clear B13 g cw
  go_wp2_with (fail)
  have cw := fun W => wWrite (⟨#[]⟩ : ByteArray) W (by decide)
  rw [kw3] at cw
  refine (cw _).mono ?_
  rintro e W14 ⟨rfl, g⟩
  have B14 := gr_call F13.out.1 g
  have F14 := Lib.hid (And.intro B14 (HN.out.below B14))
  clear B14 g cw
  go_wp2_with (fail)
  have cw := fun W => wWrite (⟨#[10]⟩ : ByteArray) W (by decide)
  rw [kw4] at cw
  refine (cw _).mono ?_
  rintro e W15 ⟨rfl, g⟩
  have B15 := gr_call F14.out.1 g
  have F15 := Lib.hid (And.intro B15 (HN.out.below B15))
  clear B15 g cw
  go_wp2_with (fail)
  have cw := fun W h => wWhich [⟨#[97]⟩, ⟨#[98]⟩, ⟨#[98]⟩] (⟨#[98]⟩ : ByteArray) (.slice (some ⟨W15.heap.size, 0, none⟩) 3 3) (by decide) W h
  rw [kh0] at cw
  unfold whV at cw
  have ia := gr_alloc F15.out.1 (.cells #[.string (⟨#[97]⟩ : ByteArray), .string (⟨#[98]⟩ : ByteArray), .string (⟨#[98]⟩ : ByteArray)] 9)
  refine (cw _ (txAt_three _ _ _ (blk_at rfl) _)).mono ?_
  rintro e W16 ⟨rfl, hW⟩
  have B16 := ia
  rw [← hW] at B16
  have F16 := Lib.hid (And.intro B16 (HN.out.below B16))
  clear B16 ia cw hW
  go_wp2_with (fail)
  have cw := fun W h => wWhich [⟨#[97]⟩, ⟨#[98]⟩] (⟨#[99]⟩ : ByteArray) (.slice (some ⟨W16.heap.size, 0, none⟩) 2 2) (by decide) W h
  rw [kh1] at cw
  unfold whV at cw
  have ia := gr_alloc F16.out.1 (.cells #[.string (⟨#[97]⟩ : ByteArray), .string (⟨#[98]⟩ : ByteArray)] 9)
  refine (cw _ (txAt_two _ _ (blk_at rfl) _)).mono ?_
  rintro e W17 ⟨rfl, hW⟩
  have B17 := ia
  rw [← hW] at B17
  have F17 := Lib.hid (And.intro B17 (HN.out.below B17))
  clear B17 ia cw hW
  go_wp2_with (fail)
  refine (lnumber (⟨#[48, 55]⟩ : ByteArray) (0) (9) (0) (3) (1003) (by decide) kn0 (.inr ⟨rfl, by decide, by decide, rfl⟩) _ F17.out.2).mono ?_
  rintro e W18 ⟨rfl, g⟩
  have B18 := gr_call F17.out.1 g
  have F18 := Lib.hid (And.intro B18 (HN.out.below B18))
  clear B18 g
  go_wp2_with (fail)
  refine (lnumber (⟨#[45, 51]⟩ : ByteArray) (-5) (5) (-3) (0) (-3) (by decide) kn1 (.inl ⟨rfl, rfl⟩) _ F18.out.2).mono ?_
  rintro e W19 ⟨rfl, g⟩
  have B19 := gr_call F18.out.1 g
  have F19 := Lib.hid (And.intro B19 (HN.out.below B19))
  clear B19 g
  go_wp2_with (fail)
  refine (lnumber (⟨#[45, 48]⟩ : ByteArray) (0) (9) (0) (3) (1003) (by decide) kn2 (.inr ⟨rfl, by decide, by decide, rfl⟩) _ F19.out.2).mono ?_
  rintro e W20 ⟨rfl, g⟩
  have B20 := gr_call F19.out.1 g
  have F20 := Lib.hid (And.intro B20 (HN.out.below B20))
  clear B20 g
  go_wp2_with (fail)
  refine (lnumber (⟨#[49, 50]⟩ : ByteArray) (0) (9) (0) (2) (1002) (by decide) kn3 (.inr ⟨rfl, by decide, by decide, rfl⟩) _ F20.out.2).mono ?_
  rintro e W21 ⟨rfl, g⟩
  have B21 := gr_call F20.out.1 g
  have F21 := Lib.hid (And.intro B21 (HN.out.below B21))
  clear B21 g
  go_wp2_with (fail)
  refine (lawake _ F21.out.2.e0).mono ?_
  rintro e WZ ⟨rfl, g⟩
  have Z := Lib.hid (gr_call F21.out.1 g)
  clear g
  go_wp2_with (fail)
  go_ret
  exact ⟨rfl, Z.out⟩
end Go.Proofs.YtpicenopiigfpaaDoor
