/-
  flag.ways and Check, walked: the plain functions; condition: the two tables lie as they are laid.
-/
import Derived.Test.YtlipjagdlpkjpaaDoorFlgA
namespace Go.Proofs.YtlipjagdlpkjpaaDoor
open Go.RowKit Go.Joins
set_option linter.unusedVariables false
set_option linter.unusedSimpArgs false

theorem below_grow (w : World) (k : Nat) (os : Array Obj) : Below w.heap.size w (Sort.grow (w.drewN k) os) :=
  ⟨rfl, rfl, rfl, by simp [Sort.grow], fun i hi => Sort.heap_grow_old (w.drewN k) os hi⟩
theorem itoaB (n : Int) (h0 : -9223372036854775808 ≤ n) (h1 : n ≤ 9223372036854775807) (w : World) (hT : Tabs w) :
    Calls Tryd.prog 48 #[.int .i64 n] w fun e w' => e = .returned (.string ⟨(Lib.itoa n).toArray⟩) ∧ Below w.heap.size w w' :=
  (Tryd.strconv_Itoa n h0 h1 w hT.2).mono fun e w' ⟨he, k, os, hw⟩ => ⟨he, by rw [hw]; exact below_grow w k os⟩
theorem one_str (s : ByteArray) : ∀ u ∈ [Value.string s], u.oneCell' = true := by
  intro u hu
  simp at hu
  subst hu
  rfl
theorem wayL_succ (f : Flg) (k : Nat) (h : way6 f k = true) : wayL f (k + 1) = wayL f k ++ [letter k] := by
  show wayL f k ++ (if way6 f k then _ else _) = _
  rw [if_pos h]; rfl
theorem wayL_same (f : Flg) (k : Nat) (h : way6 f k = false) : wayL f (k + 1) = wayL f k := by
  show wayL f k ++ (if way6 f k then _ else _) = _
  rw [h]; simp

theorem itoa_small : ∀ n : Nat, n < 64 → (⟨(Lib.itoa (n : Int)).toArray⟩ : ByteArray).size ≤ 100 := by decide +kernel
theorem itoa_skip (x : Int) (h0 : 0 ≤ x) (h1 : x < 64) : (⟨(Lib.itoa x).toArray⟩ : ByteArray).size ≤ 100 := by
  obtain ⟨n, rfl⟩ := Int.eq_ofNat_of_zero_le h0
  exact itoa_small n (by omega)
theorem codeR_cases {x : Int} (h : codeR x = true) : x = 301 ∨ x = 302 ∨ x = 303 ∨ x = 307 ∨ x = 308 := by
  unfold codeR at h
  simp only [Bool.or_eq_true, beq_iff_eq] at h
  omega
theorem itoa_red (x : Int) (h : codeR x = true) : (⟨(Lib.itoa x).toArray⟩ : ByteArray).size ≤ 100 := by
  rcases codeR_cases h with rfl | rfl | rfl | rfl | rfl <;> decide +kernel
theorem red_bounds (x : Int) (h : codeR x = true) : 301 ≤ x ∧ x ≤ 308 := by
  rcases codeR_cases h with rfl | rfl | rfl | rfl | rfl <;> decide

set_option maxRecDepth 100000 in
set_option maxHeartbeats 4000000 in
theorem fways (f : Flg) (hs : 0 ≤ f.skip ∧ f.skip < 64) (hr : (codeR f.red || f.red == 0) = true) (w : World) (hT : Tabs w) :
    Calls Tryd.prog 36 #[Value.agg #[Value.bool f.last, .bool f.next, .bool f.chain, .bool f.fin, .bool f.forb, .bool f.gone, .bool f.app, .bool f.disc, .int .i64 f.skip, .int .i64 f.red]] w fun e W' => ∃ v, e = .returned v ∧ W'.ownsRow w.heap.size 9 1 v (waysL f).length ((waysL f).map .string) ∧ Below w.heap.size w W' := by
  obtain ⟨i0, hi, hz0, hz1, hz2⟩ := info_parts infoStr
  have HT := Lib.hid hT
  have HR := Lib.hid hr
  clear hT hr
  go_enter Tryd.func36, Tryd.ntmps36
  go_wp2_with (fail)
  go_loopw [3, 19] (fun v i wr => WayRel f w v i wr) (fun _ i _ => 6 - (intOf i).toNat)
  case atStart => exact ⟨0, by decide, rfl, World.ownsRow_nil _ _ _ _, Blk.new _ _ _, (Below.refl _ _).alloc (Nat.le_refl _) _⟩
  case round =>
    obtain ⟨k, hk, rfl, hown, hblk, hbel⟩ := hrel
    by_cases hlt : k < 6
    · have hix := idx_way f k hlt
      have hsub := sub_letter k hlt
      generalize hb : way6 f k = b at hix
      obtain ⟨va, vc, rfl⟩ := own_slice hown
      have hle := wayL_le f k
      cases b with
      | false =>
        have H := Lib.hid (And.intro hown (And.intro hblk hbel))
        clear hown hblk hbel
        go_wp2_with (fail)
        refine ⟨⟨k + 1, by omega, by go_num, by rw [wayL_same f k hb]; exact H.out.1, H.out.2.1, H.out.2.2⟩, by simp [intOf]; omega⟩
      | true =>
        have hsz := hbel.size
        go_wp2_with (at_builtin; refine wpList_append_own _ rfl _ _ 40 rfl w.heap.size 9 i0 (.string ⟨#[]⟩) 1 16 Tryd.underlying40 hi hz0 hz1 hz2 rfl (by decide) _ _ _ rfl (hown.alloc _) ⟨wr.heap.size, 0, none⟩ 1 1 [.string (letter k)] rfl rfl ?c1 ?c2 ?c3 ?c4 ?c5 ?_)
        case c1 => exact one_new rfl _ _
        case c2 => exact one_str _
        case c3 => unfold maxLen; omega
        case c4 => omega
        case c5 => simp; omega
        intro v' w2 hown' hgrow _
        obtain ⟨vb, vd, rfl⟩ := own_slice hown'
        have ha := Blk.alloc hblk (.cells #[.string (letter k)] 9)
        have hblk2 := ha.grown hgrow (own_blk_ne (hown.alloc _) ha (by decide))
        have hbel2 := (hbel.alloc hbel.size (.cells #[.string (letter k)] 9)).grown hgrow (by simp; omega) (fun k hk => (hown.lt k hk).1)
        have H := Lib.hid (And.intro hown' (And.intro hblk2 hbel2))
        clear hown hblk hbel ha hgrow hown' hblk2 hbel2
        go_wp2_with (fail)
        refine ⟨⟨k + 1, by omega, by go_num, ?_, H.out.2.1, H.out.2.2⟩, by simp [intOf]; omega⟩
        rw [wayL_succ f k hb, List.length_append, List.map_append]
        exact H.out.1
    · obtain rfl : k = 6 := by omega
      have hl6 := wayL_le f 6
      obtain ⟨va, vc, rfl⟩ := own_slice hown
      by_cases hskip : f.skip = 0
      · have hsl : skipL f = [] := by unfold skipL; rw [if_pos hskip]
        have H := Lib.hid (And.intro hown (And.intro hblk hbel))
        have k8 := hblk.cell' (i := 8) rfl
        have k9 := hblk.cell' (i := 9) rfl
        have hsz := hbel.size
        have hlt8 := hblk.lt
        clear hown hblk hbel
        by_cases hred : f.red = 0
        · have hrl : redL f = [] := by unfold redL; rw [if_pos hred]
          go_wp2_with (fail)
          go_ret
          exact ⟨_, rfl, by unfold waysL; rw [hrl, hsl, List.append_nil, List.append_nil]; exact H.out.1, H.out.2.2⟩
        · have hrl : redL f = [⟨#[82, 61]⟩ ++ ⟨(Lib.itoa f.red).toArray⟩] := by unfold redL; rw [if_neg hred]
          have hcr : codeR f.red = true := by have := HR.out; rw [beq_eq_false_iff_ne.2 hred] at this; simpa using this
          have hz := itoa_red f.red hcr
          have hb2 := red_bounds f.red hcr
          go_wp2_with (fail)
          refine (itoaB f.red (by omega) (by omega) _ (HT.out.below H.out.2.2 (Nat.le_refl _))).mono ?_
          rintro e W5 ⟨rfl, h5⟩
          generalize hss : (⟨(Lib.itoa f.red).toArray⟩ : ByteArray) = ss at hrl hz
          have hownR := own_below H.out.1 h5 (Nat.le_refl _)
          have hbelR := gr_call H.out.2.2 h5
          have hszR := hbelR.size
          skip
          clear H hss h5
          go_wp2_with (at_builtin; refine wpList_append_own _ rfl _ _ 40 rfl w.heap.size 9 i0 (.string ⟨#[]⟩) 1 16 Tryd.underlying40 hi hz0 hz1 hz2 rfl (by decide) _ _ _ rfl (hownR.alloc _) ⟨W5.heap.size, 0, none⟩ 1 1 [.string (⟨#[82, 61]⟩ ++ ss)] rfl rfl ?r1 ?r2 ?r3 ?r4 ?r5 ?_)
          case r1 => exact one_new rfl _ _
          case r2 => exact one_str _
          case r3 => unfold maxLen; omega
          case r4 => omega
          case r5 => simp; omega
          intro v' w2 hown' hgrow _
          have hbel2 := (hbelR.alloc hbelR.size (.cells #[.string (⟨#[82, 61]⟩ ++ ss)] 9)).grown hgrow (by simp; omega) (fun k hk => (hownR.lt k hk).1)
          have H := Lib.hid (And.intro hown' hbel2)
          clear hownR hbelR hown' hgrow hbel2
          go_wp2_with (fail)
          go_ret
          refine ⟨_, rfl, ?_, H.out.2⟩
          unfold waysL
          rw [hrl, hsl, List.append_nil, List.length_append, List.map_append]
          exact H.out.1
      · have hsl : skipL f = [⟨#[83, 61]⟩ ++ ⟨(Lib.itoa f.skip).toArray⟩] := by unfold skipL; rw [if_neg hskip]
        have hz := itoa_skip f.skip hs.1 hs.2
        have k8 := hblk.cell' (i := 8) rfl
        have k9 := hblk.cell' (i := 9) rfl
        have hsz := hbel.size
        have hlt8 := hblk.lt
        have H0 := Lib.hid (And.intro hown (And.intro hblk hbel))
        clear hown hblk hbel
        go_wp2_with (fail)
        refine (itoaB f.skip (by omega) (by omega) _ (HT.out.below H0.out.2.2 (Nat.le_refl _))).mono ?_
        rintro e W4 ⟨rfl, h4⟩
        generalize hss : (⟨(Lib.itoa f.skip).toArray⟩ : ByteArray) = ss at hsl hz
        have hownS := own_below H0.out.1 h4 (Nat.le_refl _)
        have hblkS := H0.out.2.1.call h4
        have hbelS := gr_call H0.out.2.2 h4
        have hszS := hbelS.size
        skip
        clear H0 hss h4 k8 k9 hlt8
        go_wp2_with (at_builtin; refine wpList_append_own _ rfl _ _ 40 rfl w.heap.size 9 i0 (.string ⟨#[]⟩) 1 16 Tryd.underlying40 hi hz0 hz1 hz2 rfl (by decide) _ _ _ rfl (hownS.alloc _) ⟨W4.heap.size, 0, none⟩ 1 1 [.string (⟨#[83, 61]⟩ ++ ss)] rfl rfl ?s1 ?s2 ?s3 ?s4 ?s5 ?_)
        case s1 => exact one_new rfl _ _
        case s2 => exact one_str _
        case s3 => unfold maxLen; omega
        case s4 => omega
        case s5 => simp; omega
        intro v' w2 hown' hgrow _
        obtain ⟨vp, vq, rfl⟩ := own_slice hown'
        have hbel2 := (hbelS.alloc hbelS.size (.cells #[.string (⟨#[83, 61]⟩ ++ ss)] 9)).grown hgrow (by simp; omega) (fun k hk => (hownS.lt k hk).1)
        have ha := Blk.alloc hblkS (.cells #[.string (⟨#[83, 61]⟩ ++ ss)] 9)
        have hblk2 := ha.grown hgrow (own_blk_ne (hownS.alloc _) ha (by decide))
        have H : Hid (w2.ownsRow w.heap.size 9 1 (.slice vp ((wayL f 6).length + 1) vq) (wayL f 6 ++ skipL f).length ((wayL f 6 ++ skipL f).map .string) ∧ Blk w2 w.heap.size 24 #[Value.bool f.last, .bool f.next, .bool f.chain, .bool f.fin, .bool f.forb, .bool f.gone, .bool f.app, .bool f.disc, .int .i64 f.skip, .int .i64 f.red] ∧ Below w.heap.size w w2) := Lib.hid ⟨by rw [hsl, List.length_append, List.map_append]; exact hown', hblk2, hbel2⟩
        have hl7 : (wayL f 6 ++ skipL f).length = (wayL f 6).length + 1 := by rw [hsl, List.length_append]; rfl
        have k8 := hblk2.cell' (i := 8) rfl
        have k9 := hblk2.cell' (i := 9) rfl
        have hsz := hbel2.size
        have hlt8 := hblk2.lt
        clear hownS hblkS hbelS hown' hgrow hbel2 ha hblk2
        by_cases hred : f.red = 0
        · have hrl : redL f = [] := by unfold redL; rw [if_pos hred]
          go_wp2_with (fail)
          go_ret
          exact ⟨_, rfl, by unfold waysL; rw [hrl]; rw [List.append_nil]; exact H.out.1, H.out.2.2⟩
        · have hrl : redL f = [⟨#[82, 61]⟩ ++ ⟨(Lib.itoa f.red).toArray⟩] := by unfold redL; rw [if_neg hred]
          have hcr : codeR f.red = true := by have := HR.out; rw [beq_eq_false_iff_ne.2 hred] at this; simpa using this
          have hz := itoa_red f.red hcr
          have hb2 := red_bounds f.red hcr
          go_wp2_with (fail)
          refine (itoaB f.red (by omega) (by omega) _ (HT.out.below H.out.2.2 (Nat.le_refl _))).mono ?_
          rintro e W5 ⟨rfl, h5⟩
          generalize hss : (⟨(Lib.itoa f.red).toArray⟩ : ByteArray) = ss at hrl hz
          have hownR := own_below H.out.1 h5 (Nat.le_refl _)
          have hbelR := gr_call H.out.2.2 h5
          have hszR := hbelR.size
          rw [hl7] at hownR
          clear H hss h5
          go_wp2_with (at_builtin; refine wpList_append_own _ rfl _ _ 40 rfl w.heap.size 9 i0 (.string ⟨#[]⟩) 1 16 Tryd.underlying40 hi hz0 hz1 hz2 rfl (by decide) _ _ _ rfl (hownR.alloc _) ⟨W5.heap.size, 0, none⟩ 1 1 [.string (⟨#[82, 61]⟩ ++ ss)] rfl rfl ?r1 ?r2 ?r3 ?r4 ?r5 ?_)
          case r1 => exact one_new rfl _ _
          case r2 => exact one_str _
          case r3 => unfold maxLen; omega
          case r4 => omega
          case r5 => simp; omega
          intro v' w2 hown' hgrow _
          have hbel2 := (hbelR.alloc hbelR.size (.cells #[.string (⟨#[82, 61]⟩ ++ ss)] 9)).grown hgrow (by simp; omega) (fun k hk => (hownR.lt k hk).1)
          have H := Lib.hid (And.intro hown' hbel2)
          clear hownR hbelR hown' hgrow hbel2
          go_wp2_with (fail)
          go_ret
          refine ⟨v', rfl, ?_, H.out.2⟩
          have h1 := H.out.1
          unfold waysL
          rw [hrl, hsl]
          simpa [List.length_append, List.map_append, Nat.add_assoc] using h1
end Go.Proofs.YtlipjagdlpkjpaaDoor
