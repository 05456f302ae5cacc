/-
  The reference of rows, fifth part: row; condition: strings of at most 100000000 bytes.
-/
import Derived.Test.YtpicenopiigfpaaDoorRwS
import Derived.Test.YtpicenopiigfpaaDoorRwG
import Derived.Test.YtpicenopiigfpaaDoorRwK
namespace Go.Proofs.YtpicenopiigfpaaDoor
open Go.RowKit
set_option linter.unusedVariables false
set_option linter.unusedSimpArgs false

/-- How far row has come. -/
def RAt (s : ByteArray) (o : Nat) (xs : List Wd) (k : Nat) : Prop := k ≤ s.size ∧ xs.length ≤ k ∧ lineL o s.data.toList = preW xs (lineL (o + k) (s.data.toList.drop k))
theorem RAt.blank {s : ByteArray} {o k : Nat} {xs : List Wd} (h : RAt s o xs k) (hk : k < s.size) (hb : isBl s[k] = true) : RAt s o xs (k + 1) := by
  refine ⟨hk, by have := h.2.1; omega, ?_⟩
  rw [h.2.2, drop_at s k hk, lineL_blank hb]; rfl
theorem RAt.rem {s : ByteArray} {o k : Nat} {xs : List Wd} (h : RAt s o xs k) (hk : k < s.size) (hb : s[k] = 35) : lineL o s.data.toList = (some xs, 0) := by
  rw [h.2.2, drop_at s k hk, hb, lineL_rem]
  show (some (xs ++ []), 0) = _
  rw [List.append_nil]
theorem RAt.over {s : ByteArray} {o k : Nat} {xs : List Wd} (h : RAt s o xs k) (hk : k = s.size) : lineL o s.data.toList = (some xs, 0) := by
  rw [h.2.2, drop_end s k (by omega), lineL_nil]
  show (some (xs ++ []), 0) = _
  rw [List.append_nil]
theorem RAt.no {s : ByteArray} {o k : Nat} {xs : List Wd} (h : RAt s o xs k) (hk : k < s.size) (hb : isBl s[k] = false) (h35 : s[k] ≠ 35) (hr : readW (s.data.toList.drop k) = none) : lineL o s.data.toList = (none, o + k) := by
  rw [h.2.2]
  rw [drop_at s k hk] at hr ⊢
  rw [lineL_at hb h35, hr]; rfl
theorem RAt.word {s : ByteArray} {o k : Nat} {xs : List Wd} (h : RAt s o xs k) (hk : k < s.size) (hb : isBl s[k] = false) (h35 : s[k] ≠ 35) {r : List UInt8 × Nat} (hr : readW (s.data.toList.drop k) = some r) :
    RAt s o (xs ++ [⟨((o + k : Nat) : Int), mkB r.1, decide (s[k] = 34)⟩]) (k + r.2) := by
  have hle := readW_le _ r hr
  rw [List.length_drop, size_data] at hle
  have h1 := h.2.1
  refine ⟨by omega, by rw [List.length_append, List.length_singleton]; omega, ?_⟩
  rw [h.2.2]
  have e := drop_at s k hk
  have hr2 := hr
  rw [e] at hr2
  rw [e, lineL_at hb h35, hr2]
  show preW xs (consW _ _) = _
  rw [preW_snoc, ← e, List.drop_drop, Nat.add_assoc]
def RowP (s : ByteArray) (o : Nat) (w : World) (r : Option (List Wd) × Nat) (e : Ending) (w' : World) : Prop := match r with
  | (some ws, _) => ∃ v, e = .returned (.tuple #[.agg #[.int .i64 (o : Int), v], .agg #[.int .i64 0, .int .i64 0]]) ∧ w'.ownsRow w.heap.size 41 3 v ws.length (wdsC ws) ∧ Below w.heap.size w w'
  | (none, x) => e = .returned (.tuple #[.agg #[.int .i64 0, .slice none 0 0], .agg #[.int .i64 3, .int .i64 (x : Int)]]) ∧ Below w.heap.size w w'
/-- The blocks of row. -/
def RSt (o : Nat) (w : World) (W : World) (xs : List Wd) (v : Value) : Prop :=
  Blk W w.heap.size 39 #[.int .i64 0, .slice none 0 0] ∧ Blk W (w.heap.size + 1) 26 #[.int .i64 0, .int .i64 0] ∧ Blk W (w.heap.size + 1 + 1) 39 #[.int .i64 (o : Int), v] ∧
    W.ownsRow w.heap.size 41 3 v xs.length (wdsC xs) ∧ Below w.heap.size w W

theorem RSt.call {o : Nat} {w W W' : World} {xs : List Wd} {v : Value} (h : RSt o w W xs v) (hb : Below W.heap.size W W') : RSt o w W' xs v :=
  ⟨h.1.call hb, h.2.1.call hb, h.2.2.1.call hb, own_below h.2.2.2.1 hb (Nat.le_refl _), gr_call h.2.2.2.2 hb⟩
theorem RSt.push {o : Nat} {w W X W2 : World} {xs : List Wd} {v v' : Value} {d : Wd} (h : RSt o w W xs v) (hX : Below W.heap.size W X) (hg : X.grownBy W2 v.ownBlock)
    (hown : W2.ownsRow w.heap.size 41 3 v' (xs.length + 1) (wdsC xs ++ wdC d)) : Blk W2 (w.heap.size + 1 + 1) 39 #[.int .i64 (o : Int), v] ∧ RSt o w (W2.setCell ⟨w.heap.size + 1 + 1, 1, none⟩ v') (xs ++ [d]) v' := by
  have hx := h.call hX
  have k0 := hx.1.grown hg (own_blk_ne hx.2.2.2.1 hx.1 (by decide))
  have k1 := hx.2.1.grown hg (own_blk_ne hx.2.2.2.1 hx.2.1 (by decide))
  have k2 := hx.2.2.1.grown hg (own_blk_ne hx.2.2.2.1 hx.2.2.1 (by decide))
  have hb := hx.2.2.2.2.grown hg hx.2.2.2.2.size (fun q hq => (hx.2.2.2.1.lt q hq).1)
  refine ⟨k2, k0.far (by simp; omega) _, k1.far (by simp) _, k2.set_ 1 _, ?_, gr_set hb (by simp; omega) _⟩
  have := own_setCell (i := 1) hown k2 (by decide) v'
  rw [List.length_append, wdsC_snoc]
  exact this
/-- The two results are stored. -/
theorem RSt.stored {o : Nat} {w W : World} {xs : List Wd} {v : Value} (h : RSt o w W xs v) (x y z t : Value) :
    ((((W.setCell ⟨w.heap.size, 0, none⟩ x).setCell ⟨w.heap.size, 1, none⟩ y).setCell ⟨w.heap.size + 1, 0, none⟩ z).setCell ⟨w.heap.size + 1, 1, none⟩ t).ownsRow w.heap.size 41 3 v xs.length (wdsC xs) ∧
    Below w.heap.size w ((((W.setCell ⟨w.heap.size, 0, none⟩ x).setCell ⟨w.heap.size, 1, none⟩ y).setCell ⟨w.heap.size + 1, 0, none⟩ z).setCell ⟨w.heap.size + 1, 1, none⟩ t) := by
  have h1 := own_setCell (i := 0) h.2.2.2.1 h.1 (by decide) x
  have h2 := own_setCell (i := 1) h1 (h.1.set_ 0 x) (by decide) y
  have b1 := (h.2.1.far (p := ⟨w.heap.size, 0, none⟩) (by simp) x).far (p := ⟨w.heap.size, 1, none⟩) (by simp) y
  have h3 := own_setCell (i := 0) h2 b1 (by decide) z
  have h4 := own_setCell (i := 1) h3 (b1.set_ 0 z) (by decide) t
  exact ⟨h4, gr_set (gr_set (gr_set (gr_set h.2.2.2.2 (by simp) _) (by simp) _) (by simp) _) (by simp) _⟩

set_option maxRecDepth 100000 in
set_option maxHeartbeats 4000000 in
theorem rrow (s : ByteArray) (o : Nat) (w : World) (hs : s.size ≤ 100000000) (ho : o ≤ 100000000) :
    Calls Tryd.prog 34 #[.string s, .int .i64 (o : Int)] w (RowP s o w (lineL o s.data.toList)) := by
  obtain ⟨i0, hi, hz0, hz1, hz2⟩ := info_parts infoWord
  go_enter Tryd.func34, Tryd.ntmps34
  go_wp2_with (fail)
  go_loopw [7] (fun iv wr => ∃ (xs : List Wd) (k : Nat) (v : Value), RAt s o xs k ∧ iv = .int .i64 (k : Int) ∧ RSt o w wr xs v) (fun iv _ => s.size - (intOf iv).toNat)
  case atStart =>
    refine ⟨[], 0, .slice none 0 0, ⟨Nat.zero_le _, Nat.le_refl _, by rw [preW_nil]; rfl⟩, rfl, ?_⟩
    have b0 := Blk.new w 39 #[.int .i64 0, .slice none 0 0]
    have b1 := Blk.new (w.alloc (.cells #[.int .i64 0, .slice none 0 0] 39)) 26 #[.int .i64 0, .int .i64 0]
    have b2 := Blk.new ((w.alloc (.cells #[.int .i64 0, .slice none 0 0] 39)).alloc (.cells #[.int .i64 0, .int .i64 0] 26)) 39 #[.int .i64 (o : Int), .slice none 0 0]
    rw [World.size_alloc] at b1 b2
    rw [World.size_alloc] at b2
    exact ⟨(b0.alloc _).alloc _, b1.alloc _, b2, World.ownsRow_nil _ _ _ _, gr_alloc (gr_alloc (gr_alloc (Below.refl _ _) _) _) _⟩
  case round =>
    obtain ⟨xs, k, v, hat, rfl, hst⟩ := hrel
    have hki0 : (0 : Int) ≤ k := by omega
    have hks := hat.1
    have hxl := hat.2.1
    obtain ⟨va, vc, rfl⟩ := own_slice hst.2.2.2.1
    have hcell : wr.cell? ⟨w.heap.size, 0, none⟩ = some (.int .i64 0) ∧ wr.cell? ⟨w.heap.size, 1, none⟩ = some (.slice none 0 0) ∧ wr.cell? ⟨w.heap.size + 1, 0, none⟩ = some (.int .i64 0) ∧ wr.cell? ⟨w.heap.size + 1, 1, none⟩ = some (.int .i64 0) ∧
        wr.cell? ⟨w.heap.size + 1 + 1, 0, none⟩ = some (.int .i64 (o : Int)) ∧ wr.cell? ⟨w.heap.size + 1 + 1, 1, none⟩ = some (.slice va xs.length vc) :=
      ⟨hst.1.cell' rfl, hst.1.cell' rfl, hst.2.1.cell' rfl, hst.2.1.cell' rfl, hst.2.2.1.cell' rfl, hst.2.2.1.cell' rfl⟩
    obtain ⟨d0, d1, d2, d3, d4, d5⟩ := hcell
    have hfr : wr.frozen? ⟨w.heap.size, 0, none⟩ = false ∧ wr.frozen? ⟨w.heap.size, 1, none⟩ = false ∧ wr.frozen? ⟨w.heap.size + 1, 0, none⟩ = false ∧ wr.frozen? ⟨w.heap.size + 1, 1, none⟩ = false ∧ wr.frozen? ⟨w.heap.size + 1 + 1, 1, none⟩ = false :=
      ⟨hst.1.frozen 0, hst.1.frozen 1, hst.2.1.frozen 0, hst.2.1.frozen 1, hst.2.2.1.frozen 1⟩
    obtain ⟨f0, f1, f2, f3, f5⟩ := hfr
    have z0 := hst.1.lt
    have z1 := hst.2.1.lt
    have z2 := hst.2.2.1.lt
    by_cases hlt : k < s.size
    · have hii : (k : Int) < s.size := by omega
      obtain ⟨x, hx⟩ : ∃ x, x = s[k] := ⟨_, rfl⟩
      have hxs : s[k] = x := hx.symm
      have hxb := u8_bound x
      have h1 := fun h => hat.blank hlt h
      have h2 := fun h => hat.rem hlt h
      have h3 := fun ha hb hc => hat.no hlt ha hb hc
      have h4 := fun ha hb r hc => hat.word hlt ha hb (r := r) hc
      have hwd := fun W h => rword s k W (by omega) hlt h
      rw [hxs] at h1 h2 h3 h4 hwd
      cases hb : isBl x
      · by_cases h35 : x = 35
        · have he : ((x.toNat : Int) == 35) = true := by rw [h35]; rfl
          have hr := h2 h35
          have A := Lib.hid (And.intro hr (And.intro hst hb))
          clear hr hst hb h1 h2 h3 h4 hwd hat hx h35
          go_wp2_with (go_at_call 49; refine (rblank _ _).mono ?_; rw [A.out.2.2]; rintro e w' ⟨rfl, rfl⟩)
          refine bodyPost_ret (v := .tuple #[.agg #[.int .i64 (o : Int), .slice va xs.length vc], .agg #[.int .i64 0, .int .i64 0]]) (by simp [results, Tryd.results34, go_sem, d0, d1, d2, d3, z0, z1]) rfl ?_
          rw [A.out.1]
          exact ⟨_, rfl, (A.out.2.1.stored _ _ _ _).1, (A.out.2.1.stored _ _ _ _).2⟩
        · have hne : ((x.toNat : Int) == 35) = false := beq_eq_false_iff_ne.2 (by have := u8_ne (n := 35) (by decide) h35; omega)
          rcases e : readW (s.data.toList.drop k) with _ | r
          · have hr := h3 hb h35 e
            have A := Lib.hid (And.intro hr (And.intro hst (And.intro hb (And.intro hwd (wordV_no e)))))
            clear hr hst hb h1 h2 h3 h4 hwd hat hx h35 e d0 d1 d2 d3 d4 d5 f0 f1 f2 f3 f5 z0 z1 z2
            go_wp2_with (go_at_call 49; refine (rblank _ _).mono ?_; rw [A.out.2.2.1]; rintro e w' ⟨rfl, rfl⟩)
            refine (A.out.2.2.2.1 _ A.out.2.2.1).mono ?_
            rw [A.out.2.2.2.2]
            rintro e W1 ⟨rfl, g1⟩
            have hst := A.out.2.1.call g1
            have d0 := hst.1.cell' (i := 0) (v := .int .i64 0) rfl
            have d1 := hst.1.cell' (i := 1) (v := .slice none 0 0) rfl
            have d2 := hst.2.1.cell' (i := 0) (v := .int .i64 0) rfl
            have d3 := hst.2.1.cell' (i := 1) (v := .int .i64 0) rfl
            have f0 := hst.1.frozen 0
            have f1 := hst.1.frozen 1
            have f2 := hst.2.1.frozen 0
            have f3 := hst.2.1.frozen 1
            have z0 := hst.1.lt
            have z1 := hst.2.1.lt
            have z2 := hst.2.2.1.lt
            have H := Lib.hid hst
            clear hst g1
            go_wp2_with (fail)
            refine bodyPost_ret (v := .tuple #[.agg #[.int .i64 0, .slice none 0 0], .agg #[.int .i64 3, .int .i64 ((o + k : Nat) : Int)]]) (by simp [results, Tryd.results34, go_sem, d0, d1, d2, d3, z0, z1]; try omega) rfl ?_
            rw [A.out.1]
            exact ⟨rfl, gr_alloc (H.out.stored _ _ _ _).2 _⟩
          · have hr := h4 hb h35 r e
            have hle := readW_le _ r e
            have hhd : decide ((s.data.toList.drop k).head? = some 34) = decide (x = 34) := by rw [drop_at s k hlt, hxs]; simp
            have hwv := wordV_yes e
            rw [hhd] at hwv
            have A := Lib.hid (And.intro hr (And.intro hst (And.intro hb (And.intro hwd hwv))))
            have hr0 : ((r.2 : Int) == 0) = false := beq_eq_false_iff_ne.2 (by omega)
            obtain ⟨d, hd⟩ : ∃ d : Wd, d = ⟨((o + k : Nat) : Int), mkB r.1, decide (x = 34)⟩ := ⟨_, rfl⟩
            have hrs : k + r.2 ≤ s.size := hr.1
            clear hr hst hb h1 h2 h3 h4 hwd hat hx h35 e d0 d1 d2 d3 d4 d5 f0 f1 f2 f3 f5 z0 z1 z2 hhd hwv
            go_wp2_with (go_at_call 49; refine (rblank _ _).mono ?_; rw [A.out.2.2.1]; rintro e w' ⟨rfl, rfl⟩)
            refine (A.out.2.2.2.1 _ A.out.2.2.1).mono ?_
            rw [A.out.2.2.2.2]
            rintro e W1 ⟨rfl, g1⟩
            have hst := A.out.2.1.call g1
            have d4 := hst.2.2.1.cell' (i := 0) (v := .int .i64 (o : Int)) rfl
            have d5 := hst.2.2.1.cell' (i := 1) (v := .slice va xs.length vc) rfl
            have f5 := hst.2.2.1.frozen 1
            have z2 := hst.2.2.1.lt
            have H := Lib.hid hst
            clear hst g1
            go_wp2_with (at_builtin; refine wpList_append_own _ rfl _ _ 37 rfl w.heap.size 41 i0 _ 3 32 Tryd.underlying37 hi hz0 hz1 hz2 rfl (by decide) _ _ _ rfl ((H.out.2.2.2.1.alloc _).alloc _) ⟨W1.heap.size + 1, 0, none⟩ 1 1 [.int .i64 ((o : Int) + k), .string (mkB r.1), .bool (decide (x = 34))] rfl rfl ?c1 ?c2 ?c3 ?c4 ?c5 ?_)
            case c1 => exact many_new (by simp) _ _
            case c2 => intro u hu; simp at hu; rcases hu with rfl | rfl | rfl <;> rfl
            case c3 => unfold maxLen; omega
            case c4 => omega
            case c5 => simp; omega
            intro v' W2 hown' hgrow _
            obtain ⟨vb, vd, rfl⟩ := own_slice hown'
            obtain ⟨k2, hst2⟩ := H.out.push (d := ⟨((o + k : Nat) : Int), mkB r.1, decide (x = 34)⟩) (gr_alloc (gr_alloc (Below.refl _ _) _) _) hgrow hown'
            have e0 := k2.cell' (i := 1) (v := .slice va xs.length vc) rfl
            have g5 := k2.frozen 1
            have y2 := k2.lt
            have S := Lib.hid hst2
            clear k2 hst2 hown' hgrow d4 d5 f5 z2
            go_wp2_with (fail)
            go_roundw
            case rel => exact ⟨_, k + r.2, _, A.out.1, rfl, S.out⟩
            case measure => simp [intOf]; omega
      · have hr := h1 hb
        have A := Lib.hid (And.intro hr (And.intro hst hb))
        clear hr hst hb h1 h2 h3 h4 hwd hat hx
        go_wp2_with (go_at_call 49; refine (rblank _ _).mono ?_; rw [A.out.2.2]; rintro e w' ⟨rfl, rfl⟩)
        go_roundw
        case rel => exact ⟨xs, k + 1, _, A.out.1, rfl, A.out.2.1⟩
        case measure => simp [intOf]; omega
    · have hr := hat.over (by omega)
      have A := Lib.hid (And.intro hr hst)
      clear hr hst hat
      go_wp2_with (fail)
      refine bodyPost_ret (v := .tuple #[.agg #[.int .i64 (o : Int), .slice va xs.length vc], .agg #[.int .i64 0, .int .i64 0]]) (by simp [results, Tryd.results34, go_sem, d0, d1, d2, d3, z0, z1]) rfl ?_
      rw [A.out.1]
      exact ⟨_, rfl, (A.out.2.stored _ _ _ _).1, (A.out.2.stored _ _ _ _).2⟩
end Go.Proofs.YtpicenopiigfpaaDoor
