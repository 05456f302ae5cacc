/-
  RowBlanks, walked: it returns true, whatever the input; condition: the variable ErrSyntax holds an interface value.
-/
import Derived.Test.YtpicenopiigfpaaDoorRwV
namespace Go.Proofs.YtpicenopiigfpaaDoor
open Go.RowKit
set_option linter.unusedVariables false
set_option linter.unusedSimpArgs false

theorem textsF_len (rs : List Rw) (m : Nat) (h : ∀ r ∈ rs, r.w.length ≤ m) : (textsF rs).length ≤ rs.length * (m + 1) := by
  induction rs with
  | nil => exact Nat.zero_le _
  | cons r t ih =>
    have h1 := ih (fun x hx => h x (by simp [hx]))
    have h2 := h r (by simp)
    unfold textsF at h1 ⊢
    rw [List.flatMap_cons, List.length_append, List.length_cons, List.length_map, List.length_cons, Nat.add_mul, Nat.one_mul]
    omega
theorem texts_small {l : List UInt8} (hl : l.length ≤ 1000) {rs : List Rw} {e : Int × Int} (h : rowsR l = (some rs, e)) : (textsF rs).length ≤ 10000000 := by
  obtain ⟨h1, h2⟩ := rowsR_len l h
  have h3 := textsF_len rs 1000 (fun r hr => by have := (h2 r hr).1; omega)
  have h4 : rs.length * (1000 + 1) ≤ 1001 * (1000 + 1) := Nat.mul_le_mul_right _ (by omega)
  omega
/-- Two lists of texts, one behind the other. -/
theorem own_two {W : World} {B : Nat} {v : Value} {a b : List ByteArray} (h : W.ownsRow B 9 1 v (a.length + b.length) (txC a ++ flatC (txAt b) 1 b.length)) : W.ownsRow B 9 1 v (a ++ b).length (txC (a ++ b)) := by
  rw [flatC_tx, ← txC_append, ← List.length_append] at h
  exact h

set_option maxRecDepth 100000 in
set_option maxHeartbeats 8000000 in
theorem law_blanks (s t : ByteArray) (ws : s.size ≤ 9223372036854775807) (wt : t.size ≤ 9223372036854775807) (w : World) (hE : ErrV w 0) :
    Calls Tryd.prog 4 #[.string s, .string t] w fun e W' => e = .returned (.bool true) ∧ Below w.heap.size w W' := by
  have HE := Lib.hid hE
  clear hE
  by_cases h0 : 400 < s.size ∨ 400 < t.size
  · rcases (show (400 : Int) < s.size ∨ (¬ (400 : Int) < s.size ∧ (400 : Int) < t.size) by omega) with h | ⟨h, h'⟩
    all_goals
      clear h0
      go_enter Tryd.func4, Tryd.ntmps4
      go_wp2_with (fail)
      refine (lawake _ HE.out).mono ?_
      rintro e W1 ⟨rfl, h1⟩
      have H1 := Lib.hid h1
      clear h1
      go_wp2_with (fail)
      go_ret
      exact ⟨rfl, H1.out⟩
  · have h1 : ¬ (400 : Int) < s.size := by omega
    have h2 : ¬ (400 : Int) < t.size := by omega
    have hsl : s.data.toList.length ≤ 400 := by rw [size_data]; omega
    have htl : t.data.toList.length ≤ 400 := by rw [size_data]; omega
    have ca := fun W hE => wrows s (by omega) W hE
    have cb := fun W hE => wrows t (by omega) W hE
    rcases rowsR_tx s.data.toList (by omega) with ⟨a, ha, _⟩ | ⟨ea, ha, _⟩
    · rcases rowsR_tx t.data.toList (by omega) with ⟨b, hb, _⟩ | ⟨eb, hb, _⟩
      · rw [ha] at ca
        rw [hb] at cb
        obtain ⟨⟨m, hm, hmt⟩, ⟨n, hn, hnt⟩⟩ := blanks_law _ _ hsl htl ha hb
        obtain ⟨i0, hi, hz0, hz1, hz2⟩ := info_parts infoStr
        -- the two texts
        obtain ⟨x1, hx1⟩ : ∃ x, x = (⟨#[32, 9]⟩ : ByteArray) ++ s := ⟨_, rfl⟩
        obtain ⟨x2, hx2⟩ : ∃ x, x = x1 ++ (⟨#[10, 9, 35, 32, 34, 32, 110, 111, 32, 119, 111, 114, 100, 10, 32, 10, 32, 32]⟩ : ByteArray) := ⟨_, rfl⟩
        obtain ⟨x3, hx3⟩ : ∃ x, x = x2 ++ t := ⟨_, rfl⟩
        obtain ⟨x4, hx4⟩ : ∃ x, x = x3 ++ (⟨#[32, 35, 32, 97, 110, 100, 32, 34]⟩ : ByteArray) := ⟨_, rfl⟩
        obtain ⟨y1, hy1⟩ : ∃ x, x = s ++ (⟨#[10]⟩ : ByteArray) := ⟨_, rfl⟩
        obtain ⟨y2, hy2⟩ : ∃ x, x = y1 ++ t := ⟨_, rfl⟩
        have z1 : x1.size = s.size + 2 := by rw [hx1, ByteArray.size_append]; show 2 + s.size = _; omega
        have z2 : x2.size = s.size + 20 := by rw [hx2, ByteArray.size_append, z1]; show _ + 18 = _; omega
        have z3 : x3.size = s.size + 20 + t.size := by rw [hx3, ByteArray.size_append, z2]
        have z4 : x4.size = s.size + 28 + t.size := by rw [hx4, ByteArray.size_append, z3]; show _ + 8 = _; omega
        have z5 : y1.size = s.size + 1 := by rw [hy1, ByteArray.size_append]; rfl
        have z6 : y2.size = s.size + 1 + t.size := by rw [hy2, ByteArray.size_append, z5]
        have ex : x4.data.toList = moreL s.data.toList t.data.toList := by
          rw [hx4, hx3, hx2, hx1]
          simp [moreL]
        have ey : y2.data.toList = s.data.toList ++ 10 :: t.data.toList := by
          rw [hy2, hy1]
          simp
        have cm := fun W hE => wrows x4 (by omega) W hE
        have cn := fun W hE => wrows y2 (by omega) W hE
        rw [ex, hm] at cm
        rw [ey, hn] at cn
        have la := texts_small (by omega) ha
        have lb := texts_small (by omega) hb
        have lm : (textsF m).length ≤ 20000000 := by rw [hmt, List.length_append]; omega
        have ln : (textsF n).length ≤ 20000000 := by rw [hnt, List.length_append]; omega
        have k1 := hx1.symm
        have k2 := hx2.symm
        have k3 := hx3.symm
        have k4 := hx4.symm
        have k5 := hy1.symm
        have k6 := hy2.symm
        have HT := Lib.hid (And.intro hmt hnt)
        have HC := Lib.hid (And.intro ca (And.intro cb (And.intro cm cn)))
        clear ca cb cm cn ha hb hm hn hmt hnt ex ey hx1 hx2 hx3 hx4 hy1 hy2 h0 hsl htl
        have hq := fun W => eqFault 0 0 W
        go_enter Tryd.func4, Tryd.ntmps4
        go_wp2_with (fail)
        refine (HC.out.1 _ HE.out).mono ?_
        rintro e W1 ⟨va, rfl, o1, g1⟩
        have i1 := gr_alloc (Below.refl W1.heap.size W1) (.cells #[.int .i64 0, .int .i64 0] 26)
        have B1 := gr_call g1 i1
        have H1 := Lib.hid (And.intro (o1.in_.below i1) (And.intro (Blk.new W1 26 #[.int .i64 0, .int .i64 0]) (And.intro B1 (HE.out.below B1 HE.out.lt))))
        clear o1 g1 i1 B1
        go_wp2_with (fail)
        refine (HC.out.2.1 _ H1.out.2.2.2).mono ?_
        rintro e W2 ⟨vb, rfl, o2, g2⟩
        have i2 := gr_alloc (Below.refl W2.heap.size W2) (.cells #[.int .i64 0, .int .i64 0] 26)
        have j2 := gr_call g2 i2
        have B2 := gr_call H1.out.2.2.1 j2
        have bA := H1.out.2.1.call j2
        have bB := Blk.new W2 26 #[.int .i64 0, .int .i64 0]
        have d0 := bA.cell' (i := 0) (v := .int .i64 0) rfl
        have d1 := bB.cell' (i := 0) (v := .int .i64 0) rfl
        have H2 := Lib.hid (And.intro (H1.out.1.below j2) (And.intro (o2.in_.below i2) (And.intro B2 (HE.out.below B2 HE.out.lt))))
        have zA := bA.lt
        have zB := bB.lt
        clear o2 g2 i2 j2 B2 bA bB
        go_wp2_with (fail)
        refine (HC.out.2.2.1 _ H2.out.2.2.2).mono ?_
        rintro e W3 ⟨vm, rfl, o3, g3⟩
        have i3 := gr_alloc (Below.refl W3.heap.size W3) (.cells #[.int .i64 0, .int .i64 0] 26)
        have j3 := gr_call g3 i3
        have B3 := gr_call H2.out.2.2.1 j3
        have H3 := Lib.hid (And.intro (H2.out.1.below j3) (And.intro (H2.out.2.1.below j3) (And.intro (o3.in_.below i3) (And.intro (Blk.new W3 26 #[.int .i64 0, .int .i64 0]) (And.intro B3 (HE.out.below B3 HE.out.lt))))))
        clear o3 g3 i3 j3 B3 d0 d1 zA zB
        go_wp2_with (fail)
        refine (HC.out.2.2.2 _ H3.out.2.2.2.2.2).mono ?_
        rintro e W4 ⟨vn, rfl, o4, g4⟩
        have i4 := gr_alloc (Below.refl W4.heap.size W4) (.cells #[.int .i64 0, .int .i64 0] 26)
        have j4 := gr_call g4 i4
        have B4 := gr_call H3.out.2.2.2.2.1 j4
        have bC := H3.out.2.2.2.1.call j4
        have bD := Blk.new W4 26 #[.int .i64 0, .int .i64 0]
        have d0 := bC.cell' (i := 0) (v := .int .i64 0) rfl
        have d1 := bD.cell' (i := 0) (v := .int .i64 0) rfl
        have zC := bC.lt
        have zD := bD.lt
        have H4 := Lib.hid (And.intro (H3.out.1.below j4) (And.intro (H3.out.2.1.below j4) (And.intro (H3.out.2.2.1.below j4) (And.intro (o4.in_.below i4) (And.intro bC (And.intro bD (And.intro B4 (HE.out.below B4 HE.out.lt))))))))
        clear o4 g4 i4 j4 B4 bC bD
        go_wp2_with (fail)
        refine (ltexts a 10000000 (by decide) la va _ H4.out.1).mono ?_
        rintro e W5 ⟨ua, rfl, o5, g5⟩
        obtain ⟨ua1, ua2, rfl⟩ := own_slice o5
        have H5 := Lib.hid (And.intro g5 o5)
        have hvb := H4.out.2.1.below g5
        clear o5 g5 d0 d1 zC zD
        go_wp2_with (fail)
        refine (ltexts b 10000000 (by decide) lb vb _ hvb).mono ?_
        rintro e W6 ⟨ub, rfl, o6, g6⟩
        obtain ⟨B, cB, rfl, hokB, hcB⟩ := own_texts o6
        have oA := own_below H5.out.2 g6 (Nat.le_refl _)
        have G6 := gr_call H5.out.1 g6
        have hsz4 := H4.out.2.2.2.2.2.2.1.size
        have hsz6 := G6.size
        have oA2 := own_weaken oA hsz4
        have H6 := Lib.hid (And.intro G6 oA)
        clear o6 g6 oA G6 hvb
        go_wp2_with (at_builtin; go_loud (refine append_more (by first | rfl | simp [Region.wanted, yielded]) _ _ 31 rfl w.heap.size 9 i0 (.string ⟨#[]⟩) 1 16 Tryd.underlying31 hi hz0 hz1 hz2 rfl (by decide) _ (textsF a).length _ rfl oA2 B (textsF b).length cB (txAt (textsF b)) rfl hokB hcB (TextsIn.one _) ?c3 ?c4 ?c5 ?_))
        case c3 => unfold maxLen; omega
        case c4 => omega
        case c5 => omega
        intro v7 W7 ho7 hg7
        have G7 := H6.out.1.grown hg7 hsz6 (fun k hk => (H6.out.2.lt k hk).1)
        have t7 := own_texts (own_two ho7)
        obtain ⟨A7, c7, rfl, _⟩ := t7
        have t7 := own_texts (own_two ho7)
        have bC := H4.out.2.2.2.2.1.call G7
        have bD := H4.out.2.2.2.2.2.1.call G7
        have d0 := bC.cell' (i := 0) (v := .int .i64 0) rfl
        have d1 := bC.cell' (i := 1) (v := .int .i64 0) rfl
        have e0 := bD.cell' (i := 0) (v := .int .i64 0) rfl
        have e1 := bD.cell' (i := 1) (v := .int .i64 0) rfl
        have zC := bC.lt
        have zD := bD.lt
        have H7 := Lib.hid (And.intro (H4.out.2.2.1.below G7) (And.intro (H4.out.2.2.2.1.below G7) (And.intro bD (And.intro t7 (gr_call H4.out.2.2.2.2.2.2.1 G7)))))
        clear ho7 hg7 G7 t7 bC bD oA2 hokB hcB
        go_wp2_with (fail)
        refine (ltexts m 20000000 (by decide) lm vm _ H7.out.1).mono ?_
        rintro e W8 ⟨u8, rfl, o8, g8⟩
        have t8 := own_texts o8
        have q8 := H7.out.2.2.2.1.below g8
        rw [← HT.out.1] at q8
        have bD := H7.out.2.2.1.call g8
        have e0' := bD.cell' (i := 0) (v := .int .i64 0) rfl
        have e1' := bD.cell' (i := 1) (v := .int .i64 0) rfl
        have zD' := bD.lt
        have H8 := Lib.hid (And.intro t8 (And.intro q8 (And.intro (H7.out.2.1.below g8) (And.intro bD (gr_call H7.out.2.2.2.2 g8)))))
        clear o8 g8 t8 q8 bD d0 d1 e0 e1 zC zD
        obtain ⟨A8, c8, rfl, _⟩ := H8.out.1
        go_wp2_with (fail)
        have hl8 : (A8 = A8) := rfl
        refine (lsameTexts (textsF m) (by omega) _ _ W8 H8.out.1 (by have := H8.out.2.1; rw [HT.out.1, List.length_append] at this; rw [HT.out.1]; exact this)).mono ?_
        rintro e W9 ⟨rfl, g9⟩
        have H9 := Lib.hid (And.intro (H8.out.2.1.below g9) (And.intro (H8.out.2.2.1.below g9) (gr_call H8.out.2.2.2.2 g9)))
        clear g9 e0' e1' zD'
        go_wp2_with (fail)
        refine (ltexts n 20000000 (by decide) ln vn _ H9.out.2.1).mono ?_
        rintro e W10 ⟨u10, rfl, o10, g10⟩
        have t10 := own_texts o10
        have q10 := H9.out.1.below g10
        rw [HT.out.1, ← HT.out.2] at q10
        have H10 := Lib.hid (And.intro t10 (And.intro q10 (gr_call H9.out.2.2 g10)))
        clear o10 g10 t10 q10
        obtain ⟨A10, c10, rfl, _⟩ := H10.out.1
        go_wp2_with (fail)
        refine (lsameTexts (textsF n) (by omega) _ _ W10 H10.out.1 (by have := H10.out.2.1; rw [HT.out.2, List.length_append] at this; rw [HT.out.2]; exact this)).mono ?_
        rintro e W11 ⟨rfl, g11⟩
        have B11 := gr_call H10.out.2.2 g11
        have H11 := Lib.hid (And.intro B11 (HE.out.below B11 HE.out.lt))
        clear g11 B11
        go_wp2_with (fail)
        refine (lawake _ H11.out.2).mono ?_
        rintro e W12 ⟨rfl, g12⟩
        have H12 := Lib.hid (gr_call H11.out.1 g12)
        clear g12
        go_wp2_with (fail)
        go_ret
        exact ⟨rfl, H12.out⟩
      · -- the second text has a fault
        rw [ha] at ca
        rw [hb] at cb
        have HC := Lib.hid (And.intro ca cb)
        clear ca cb ha hb h0 hsl htl
        go_enter Tryd.func4, Tryd.ntmps4
        go_wp2_with (fail)
        refine (HC.out.1 _ HE.out).mono ?_
        rintro e W1 ⟨va, rfl, o1, g1⟩
        have i1 := gr_alloc (Below.refl W1.heap.size W1) (.cells #[.int .i64 0, .int .i64 0] 26)
        have B1 := gr_call g1 i1
        have H1 := Lib.hid (And.intro (Blk.new W1 26 #[.int .i64 0, .int .i64 0]) (And.intro B1 (HE.out.below B1 HE.out.lt)))
        clear o1 g1 i1 B1
        go_wp2_with (fail)
        refine (HC.out.2 _ H1.out.2.2).mono ?_
        rintro e W2 ⟨vb, rfl, o2, g2⟩
        have i2 := gr_alloc (Below.refl W2.heap.size W2) (.cells #[.int .i64 3, .int .i64 eb] 26)
        have j2 := gr_call g2 i2
        have B2 := gr_call H1.out.2.1 j2
        have bA := H1.out.1.call j2
        have d0 := bA.cell' (i := 0) (v := .int .i64 0) rfl
        have zA := bA.lt
        have H2 := Lib.hid (And.intro B2 (HE.out.below B2 HE.out.lt))
        clear o2 g2 i2 j2 B2 bA
        go_wp2_with (fail)
        refine (lawake _ H2.out.2).mono ?_
        rintro e W3 ⟨rfl, g3⟩
        have H3 := Lib.hid (gr_call H2.out.1 g3)
        clear g3
        go_wp2_with (fail)
        go_ret
        exact ⟨rfl, H3.out⟩
    · -- the first text has a fault
      rw [ha] at ca
      obtain ⟨rb, hrb⟩ : ∃ r, r = rowsR t.data.toList := ⟨_, rfl⟩
      rw [← hrb] at cb
      obtain ⟨ob, xb, yb⟩ := rb
      have HC := Lib.hid (And.intro ca cb)
      clear ca cb ha hrb h0 hsl htl
      go_enter Tryd.func4, Tryd.ntmps4
      go_wp2_with (fail)
      refine (HC.out.1 _ HE.out).mono ?_
      rintro e W1 ⟨va, rfl, o1, g1⟩
      have i1 := gr_alloc (Below.refl W1.heap.size W1) (.cells #[.int .i64 3, .int .i64 ea] 26)
      have B1 := gr_call g1 i1
      have H1 := Lib.hid (And.intro (Blk.new W1 26 #[.int .i64 3, .int .i64 ea]) (And.intro B1 (HE.out.below B1 HE.out.lt)))
      clear o1 g1 i1 B1
      go_wp2_with (fail)
      refine (HC.out.2 _ H1.out.2.2).mono ?_
      rintro e W2 ⟨vb, rfl, o2, g2⟩
      have i2 := gr_alloc (Below.refl W2.heap.size W2) (.cells #[.int .i64 xb, .int .i64 yb] 26)
      have j2 := gr_call g2 i2
      have B2 := gr_call H1.out.2.1 j2
      have bA := H1.out.1.call j2
      have d0 := bA.cell' (i := 0) (v := .int .i64 3) rfl
      have zA := bA.lt
      have H2 := Lib.hid (And.intro B2 (HE.out.below B2 HE.out.lt))
      clear o2 g2 i2 j2 B2 bA
      go_wp2_with (fail)
      refine (lawake _ H2.out.2).mono ?_
      rintro e W3 ⟨rfl, g3⟩
      have H3 := Lib.hid (gr_call H2.out.1 g3)
      clear g3
      go_wp2_with (fail)
      go_ret
      exact ⟨rfl, H3.out⟩
end Go.Proofs.YtpicenopiigfpaaDoor
