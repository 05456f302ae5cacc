/-
  RowBack, walked: it returns true, whatever the rows and the text; condition: the variable ErrSyntax holds an interface value.
-/
import Derived.Test.YtpicenopiigfpaaDoorRxG
import Derived.Test.YtpicenopiigfpaaDoorRwY
namespace Go.Proofs.YtpicenopiigfpaaDoor
open Go.RowKit
set_option linter.unusedVariables false
set_option linter.unusedSimpArgs false

theorem rowsF_ne : ∀ (ps : List (List UInt8)) (o : Nat) (rs : List Rw) (e : Int × Int), rowsF o ps = (some rs, e) → ∀ r ∈ rs, r.w ≠ []
  | [], o, rs, e, h => by cases h; intro r hr; cases hr
  | p :: ps, o, rs, e, h => by
    by_cases hp : 1000 < p.length
    · rw [rowsF_long hp] at h; cases h
    · rcases e1 : lineL o p with ⟨_ | ws, x⟩
      · rw [rowsF_bad hp e1] at h; cases h
      · rw [rowsF_line hp e1] at h
        rcases e2 : rowsF (o + p.length + 1) ps with ⟨_ | ys, y⟩
        · rw [e2] at h; cases h
        · rw [e2] at h
          cases h
          intro r hr
          rcases List.mem_append.1 hr with hr | hr
          · unfold rowOf at hr
            split at hr
            · cases hr
            · rename_i hw
              simp at hr
              rw [hr]; exact hw
          · exact rowsF_ne ps _ _ _ e2 r hr
theorem rowsR_ne {l : List UInt8} {rs : List Rw} {e : Int × Int} (h : rowsR l = (some rs, e)) : ∀ r ∈ rs, r.w ≠ [] := by
  unfold rowsR at h
  by_cases hl : 20000 < l.length
  · rw [if_pos hl] at h; cases h
  · rw [if_neg hl] at h; exact rowsF_ne _ _ _ _ h
/-- What a text of rows is, and how it is read. -/
theorem text_ways (rs : List Rw) (hne : ∀ r ∈ rs, r.w ≠ []) (m : Nat) (hl : rs.length ≤ 1000) (hw : ∀ r ∈ rs, r.w.length ≤ 1000) :
    (∃ s b, textF (txR rs) [] = (some s, 0) ∧ rowsR s = (some b, 0, 0) ∧ textsF b = textsF rs ∧ s.length ≤ 20000 ∧ (textsF rs).length ≤ 10000000) ∨ textF (txR rs) [] = (none, 4) := by
  rcases textF_err (txR rs) [] (fun r hr => by
    unfold txR at hr
    obtain ⟨x, hx, rfl⟩ := List.mem_map.1 hr
    simpa using hne x hx) with ⟨s, hs⟩ | h
  · obtain ⟨b, h1, h2, h3⟩ := text_back (txR rs) hs
    have h4 := textsF_len rs 1000 hw
    have h5 : rs.length * (1000 + 1) ≤ 1000 * (1000 + 1) := Nat.mul_le_mul_right _ hl
    refine .inl ⟨s, b, hs, h1, ?_, h3, by omega⟩
    rw [h2]
    exact texts_of rs
  · exact .inr h
/-- A row within the law's bounds. -/
def okK (r : Rw) : Bool := decide (1 ≤ r.w.length) && decide (r.w.length ≤ 12) && r.w.all fun d => decide (d.t.size ≤ 60)

set_option maxRecDepth 100000 in
set_option maxHeartbeats 16000000 in
theorem law_back (rs : List Rw) (v : Value) (t : ByteArray) (wt : t.size ≤ 9223372036854775807) (w : World) (hv : RowsIn w v rs) (hE : ErrV w 0) :
    Calls Tryd.prog 7 #[v, .string t] w fun e W' => e = .returned (.bool true) ∧ Below w.heap.size w W' := by
  have HE := Lib.hid (And.intro hE hv)
  clear hE
  obtain ⟨A, c, vs, rfl, _, hA, hvs, hin⟩ := hv
  obtain ⟨n, hn⟩ : ∃ n, n = rs.length := ⟨_, rfl⟩
  have HA := Lib.hid (And.intro hA (And.intro hin (And.intro hvs hn)))
  rw [← hn]
  clear hA hin hvs hn
  by_cases h0 : 20 < n ∨ 600 < t.size
  · rcases (show (20 : Int) < n ∨ (¬ (20 : Int) < n ∧ (600 : Int) < t.size) by omega) with h | ⟨h, h'⟩
    all_goals
      clear h0
      go_enter Tryd.func7, Tryd.ntmps7
      go_wp2_with (fail)
      refine (lawake _ HE.out.1).mono ?_
      rintro e W1 ⟨rfl, h1⟩
      have H1 := Lib.hid h1
      clear h1
      go_wp2_with (fail)
      go_ret
      exact ⟨rfl, H1.out⟩
  · have h1 : ¬ (20 : Int) < n := by omega
    have h2 : ¬ (600 : Int) < t.size := by omega
    have h3 : n ≤ 20 := by omega
    have htl : t.data.toList.length ≤ 600 := by rw [size_data]; omega
    clear h0
    go_enter Tryd.func7, Tryd.ntmps7
    go_wp2_with (fail)
    go_loopw [5] (fun iv wr => (∃ k : Nat, k ≤ n ∧ iv = .int .i64 (k : Int) ∧ (rs.take k).all okK = true) ∧ wr = w) (fun iv _ => n - (intOf iv).toNat)
    case atStart => exact ⟨⟨0, Nat.zero_le _, rfl, rfl⟩, rfl⟩
    case round =>
      obtain ⟨⟨k, hk, rfl, hall⟩, rfl⟩ := hrel
      by_cases hlt : k < n
      · have hki : (k : Int) < n := by omega
        obtain ⟨r, hr⟩ : ∃ r, rs[k]? = some r := ⟨_, List.getElem?_eq_getElem (by rw [← HA.out.2.2.2]; exact hlt)⟩
        obtain ⟨u, hu⟩ : ∃ u, vs[k]? = some u := ⟨_, List.getElem?_eq_getElem (by rw [HA.out.2.2.1, ← HA.out.2.2.2]; exact hlt)⟩
        obtain ⟨ab, ao, rfl, hab, c0, c1⟩ := cells_rw HA.out.1 hr hu
        have hwi := HA.out.2.1 k r u hr hu
        obtain ⟨B, d, rfl, _, hcB⟩ := hwi
        have htk : rs.take (k + 1) = rs.take k ++ [r] := by rw [List.take_add_one, hr]; rfl
        by_cases h12 : 1 ≤ r.w.length ∧ r.w.length ≤ 12
        · have ha1 : ¬ (r.w.length : Int) < 1 := by omega
          have ha2 : ¬ (12 : Int) < r.w.length := by omega
          have F := Lib.hid (And.intro hall (And.intro htk hcB))
          clear hall hr htk hcB hu
          go_wp2_with (fail)
          go_loopw [6] (fun jv wx => (∃ j : Nat, j ≤ r.w.length ∧ jv = .int .i64 (j : Int) ∧ (r.w.take j).all (fun d => decide (d.t.size ≤ 60)) = true) ∧ wx = wr) (fun jv _ => r.w.length - (intOf jv).toNat)
          case atStart => exact ⟨⟨0, Nat.zero_le _, rfl, rfl⟩, rfl⟩
          case round =>
            obtain ⟨⟨j, hj, rfl, hja⟩, rfl⟩ := hrel
            by_cases hjl : j < r.w.length
            · have hji : (j : Int) < r.w.length := by omega
              obtain ⟨q, hq⟩ : ∃ q, r.w[j]? = some q := ⟨_, List.getElem?_eq_getElem hjl⟩
              obtain ⟨bb, bo, rfl, hbb, e0, e1, e2⟩ := cells_wd F.out.2.2 hq
              have hjt : r.w.take (j + 1) = r.w.take j ++ [q] := by rw [List.take_add_one, hq]; rfl
              by_cases h11 : q.t.size ≤ 60
              · have h13 : ¬ (60 : Int) < q.t.size := by omega
                have G := Lib.hid (And.intro hja hjt)
                clear hja hjt hq
                go_wp2_with (fail)
                go_roundw
                case rel => exact ⟨⟨j + 1, by omega, rfl, by rw [G.out.2, List.all_append, G.out.1]; simp; omega⟩, trivial⟩
                case measure => simp [intOf]; omega
              · have h13 : (60 : Int) < q.t.size := by omega
                clear hja hjt hq
                go_wp2_with (fail)
                refine (lawake _ HE.out.1).mono ?_
                rintro e W1 ⟨rfl, g1⟩
                have H1 := Lib.hid g1
                clear g1
                go_wp2_with (fail)
                go_ret
                exact ⟨rfl, H1.out⟩
            · have hji : ¬ (j : Int) < r.w.length := by omega
              have hje : okK r = true := by
                have h := hja
                rw [List.take_of_length_le (show r.w.length ≤ j by omega)] at h
                unfold okK
                rw [decide_eq_true h12.1, decide_eq_true h12.2, h]; rfl
              have G := Lib.hid hje
              clear hja hje
              go_wp2_with (fail)
              go_roundw
              case rel => exact ⟨⟨k + 1, by omega, rfl, by rw [F.out.2.1, List.all_append, F.out.1]; show (true && (okK r && true)) = true; rw [G.out]; rfl⟩, trivial⟩
              case measure => simp [intOf]; omega
        · clear hall hr htk hcB hu
          rcases (show (r.w.length : Int) < 1 ∨ (¬ (r.w.length : Int) < 1 ∧ (12 : Int) < r.w.length) by omega) with h | ⟨h, h'⟩
          all_goals
            clear h12
            go_wp2_with (fail)
            refine (lawake _ HE.out.1).mono ?_
            rintro e W1 ⟨rfl, g1⟩
            have H1 := Lib.hid g1
            clear g1
            go_wp2_with (fail)
            go_ret
            exact ⟨rfl, H1.out⟩
      · have hki : ¬ (k : Int) < n := by omega
        rw [List.take_of_length_le (show rs.length ≤ k by rw [← HA.out.2.2.2]; omega), List.all_eq_true] at hall
        have hok : ∀ r ∈ rs, r.w ≠ [] ∧ r.w.length ≤ 12 := fun r hr => by
          have h := hall r hr
          unfold okK at h
          simp only [Bool.and_eq_true, decide_eq_true_eq] at h
          exact ⟨fun e => by rw [e] at h; simp at h, h.1.2⟩
        have hsz : ∀ r ∈ rs, ∀ d ∈ r.w, d.t.size ≤ 60 := fun r hr d hd => by
          have h := hall r hr
          unfold okK at h
          simp only [Bool.and_eq_true, List.all_eq_true, decide_eq_true_eq] at h
          exact h.2 d hd
        have hrl : rs.length ≤ 20 := by rw [← HA.out.2.2.2]; exact h3
        have hway := text_ways rs (fun r hr => (hok r hr).1) 0 (by omega) (fun r hr => by have := (hok r hr).2; omega)
        have q1 := lown rs (by omega) (fun r h => by have := (hok r h).2; omega) _ wr HE.out.2
        rw [← HA.out.2.2.2] at q1
        have q2 := fun u W hu => wText rs (by omega) (fun r h => ⟨by have := (hok r h).2; omega, fun d hd => by have := hsz r h d hd; omega⟩) u W hu
        have hq := fun W => eqFault 0 0 W
        have Q := Lib.hid (And.intro q1 q2)
        clear hall hok hsz q1 q2
        rcases hway with ⟨s1, b1, ht1, hb1, hx1, hs1, hm1⟩ | ht1
        case' inl =>
          have q2 := Q.out.2
          rw [ht1] at q2
          have q3 := fun W hE => wrows (mkB s1) (by rw [mkB_size]; omega) W hE
          rw [mkB_data, hb1] at q3
          have q4 := fun u W hu => ltexts b1 10000000 (by decide) (by rw [hx1]; omega) u W hu
          have q5 := fun u W hu => ltexts rs 10000000 (by decide) (by omega) u W hu
          have R := Lib.hid (And.intro q2 (And.intro q3 (And.intro q4 (And.intro q5 hx1))))
          clear q2 q3 q4 q5 ht1 hb1 hx1
          go_wp2_with (fail)
          refine Q.out.1.mono ?_
          rintro e W1 ⟨u1, rfl, o1, g1⟩
          have H1 := Lib.hid (And.intro o1.in_ g1)
          clear o1 g1
          go_wp2_with (fail)
          refine (R.out.1 _ _ H1.out.1).mono ?_
          unfold textV
          rintro e W2 ⟨rfl, g2⟩
          have B2 := gr_call H1.out.2 g2
          have H2 := Lib.hid (And.intro B2 (HE.out.1.below B2 HE.out.1.lt))
          clear g2 B2
          rw [show (some s1 : Option (List UInt8)).getD [] = s1 from rfl]
          go_wp2_with (fail)
          refine (R.out.2.1 _ H2.out.2).mono ?_
          rintro e W3 ⟨vb, rfl, o3, g3⟩
          have i3 := gr_alloc (Below.refl W3.heap.size W3) (.cells #[.int .i64 0, .int .i64 0] 26)
          have B3 := gr_call (gr_call H2.out.1 g3) i3
          have H3 := Lib.hid (And.intro (o3.in_.below i3) B3)
          clear o3 g3 i3 B3
          go_wp2_with (fail)
          refine (R.out.2.2.1 vb _ H3.out.1).mono ?_
          rintro e W4 ⟨u4, rfl, o4, g4⟩
          have B4 := gr_call H3.out.2 g4
          have t4 := own_texts o4
          rw [R.out.2.2.2.2] at t4
          have H4 := Lib.hid (And.intro t4 (And.intro (HE.out.2.below B4) B4))
          clear o4 g4 B4 t4
          go_wp2_with (fail)
          refine (R.out.2.2.2.1 _ _ (by have := H4.out.2.1; rw [← HA.out.2.2.2] at this; exact this)).mono ?_
          rintro e W5 ⟨u5, rfl, o5, g5⟩
          have t5 := own_texts o5
          have H5 := Lib.hid (And.intro t5 (And.intro (H4.out.1.below g5) (gr_call H4.out.2.2 g5)))
          clear o5 g5 t5
          obtain ⟨A4, c4, rfl, _⟩ := H5.out.2.1
          obtain ⟨A5, c5, rfl, _⟩ := H5.out.1
          go_wp2_with (fail)
          refine (lsameTexts (textsF rs) (by omega) _ _ W5 H5.out.2.1 H5.out.1).mono ?_
          rintro e WZ ⟨rfl, g6⟩
          have BZ := gr_call H5.out.2.2 g6
          have HZ := Lib.hid (And.intro BZ (HE.out.1.below BZ HE.out.1.lt))
          clear g6 BZ
        case' inr =>
          have q2 := Q.out.2
          rw [ht1] at q2
          have R := Lib.hid q2
          clear q2 ht1
          go_wp2_with (fail)
          refine Q.out.1.mono ?_
          rintro e W1 ⟨u1, rfl, o1, g1⟩
          have H1 := Lib.hid (And.intro o1.in_ g1)
          clear o1 g1
          go_wp2_with (fail)
          refine (R.out _ _ H1.out.1).mono ?_
          unfold textV
          rintro e WZ ⟨rfl, g2⟩
          have BZ := gr_call H1.out.2 g2
          have HZ := Lib.hid (And.intro BZ (HE.out.1.below BZ HE.out.1.lt))
          clear g2 BZ
        all_goals
          clear HA R Q H1
          try clear H2 H3 H4 H5
          have ct := fun W hE => wrows t (by omega) W hE
          rcases rowsR_tx t.data.toList (by omega) with ⟨l, hl, _⟩ | ⟨el, hl, _⟩
          · rw [hl] at ct
            obtain ⟨hl1, hl2⟩ := rowsR_len _ hl
            have hne := rowsR_ne hl
            have p1 := fun u W hu => lown l (by omega) (fun r h => by have := (hl2 r h).1; omega) u W hu
            have p2 := fun u W hu => wText l (by omega) (fun r h => ⟨by have := (hl2 r h).1; omega, fun d hd => by have := (hl2 r h).2 d hd; omega⟩) u W hu
            rcases text_ways l hne 0 (by omega) (fun r hr => by have := (hl2 r hr).1; omega) with ⟨s2, b2, ht2, hb2, hx2, hs2, hm2⟩ | ht2
            · rw [ht2] at p2
              have p3 := fun W hE => wrows (mkB s2) (by rw [mkB_size]; omega) W hE
              rw [mkB_data, hb2] at p3
              have p4 := fun u W hu => ltexts b2 10000000 (by decide) (by rw [hx2]; omega) u W hu
              have p5 := fun u W hu => ltexts l 10000000 (by decide) (by omega) u W hu
              have R := Lib.hid (And.intro ct (And.intro p1 (And.intro p2 (And.intro p3 (And.intro p4 (And.intro p5 hx2))))))
              clear ct p1 p2 p3 p4 p5 ht2 hb2 hx2 hl hne hl2
              go_wp2_with (fail)
              refine (R.out.1 _ HZ.out.2).mono ?_
              rintro e W1 ⟨vl, rfl, o1, g1⟩
              have i1 := gr_alloc (Below.refl W1.heap.size W1) (.cells #[.int .i64 0, .int .i64 0] 26)
              have B1 := gr_call (gr_call HZ.out.1 g1) i1
              have H1 := Lib.hid (And.intro (o1.below i1) (And.intro (Blk.new W1 26 #[.int .i64 0, .int .i64 0]) B1))
              have hzs := Nat.le_trans HZ.out.1.size g1.size
              clear o1 g1 i1 B1
              go_wp2_with (fail)
              refine (R.out.2.1 _ _ H1.out.1.in_).mono ?_
              rintro e W2 ⟨u2, rfl, o2, g2⟩
              have H2 := Lib.hid (And.intro o2.in_ (And.intro (H1.out.1.below g2) (And.intro (H1.out.2.1.call g2) (gr_call H1.out.2.2 g2))))
              clear o2 g2
              go_wp2_with (fail)
              refine (R.out.2.2.1 _ _ H2.out.1).mono ?_
              unfold textV
              rintro e W3 ⟨rfl, g3⟩
              have B3 := gr_call H2.out.2.2.2 g3
              have H3 := Lib.hid (And.intro (H2.out.2.1.below g3) (And.intro (H2.out.2.2.1.call g3) (And.intro B3 (HE.out.1.below B3 HE.out.1.lt))))
              clear g3 B3
              rw [show (some s2 : Option (List UInt8)).getD [] = s2 from rfl]
              go_wp2_with (fail)
              refine (R.out.2.2.2.1 _ H3.out.2.2.2).mono ?_
              rintro e W4 ⟨vb2, rfl, o4, g4⟩
              have b4 := H3.out.2.1.call g4
              have f0 := b4.frozen 0
              have f1 := b4.frozen 1
              have d0 := b4.cell' (i := 0) (v := .int .i64 0) rfl
              have d1 := b4.cell' (i := 1) (v := .int .i64 0) rfl
              have z4 := b4.lt
              have B4 := gr_call H3.out.2.2.1 g4
              have s4 := (o4.set_ b4 (by decide) (by decide) 0 (.int .i64 0)).set_ (b4.set_ 0 (.int .i64 0)) (by decide) (by decide) 1 (.int .i64 0)
              have l4 := ((H3.out.1.below g4).set_ b4 (by decide) (by decide) 0 (.int .i64 0)).set_ (b4.set_ 0 (.int .i64 0)) (by decide) (by decide) 1 (.int .i64 0)
              have X4 := gr_set (gr_set B4 (p := ⟨W1.heap.size, 0, none⟩) hzs (.int .i64 0)) (p := ⟨W1.heap.size, 1, none⟩) hzs (.int .i64 0)
              have H4 := Lib.hid (And.intro s4.in_ (And.intro l4.in_ X4))
              clear o4 g4 b4 B4 s4 l4 X4
              go_wp2_with (fail)
              refine (R.out.2.2.2.2.1 _ _ H4.out.1).mono ?_
              rintro e W5 ⟨u5, rfl, o5, g5⟩
              have t5 := own_texts o5
              rw [R.out.2.2.2.2.2.2] at t5
              have H5 := Lib.hid (And.intro t5 (And.intro (H4.out.2.1.below g5) (gr_call H4.out.2.2 g5)))
              clear o5 g5 t5 d0 d1 f0 f1 z4
              go_wp2_with (fail)
              refine (R.out.2.2.2.2.2.1 _ _ H5.out.2.1).mono ?_
              rintro e W6 ⟨u6, rfl, o6, g6⟩
              have t6 := own_texts o6
              have H6 := Lib.hid (And.intro t6 (And.intro (H5.out.1.below g6) (gr_call H5.out.2.2 g6)))
              clear o6 g6 t6
              obtain ⟨A5, c5, rfl, _⟩ := H6.out.2.1
              obtain ⟨A6, c6, rfl, _⟩ := H6.out.1
              go_wp2_with (fail)
              refine (lsameTexts (textsF l) (by omega) _ _ W6 H6.out.2.1 H6.out.1).mono ?_
              rintro e W7 ⟨rfl, g7⟩
              have B7 := gr_call H6.out.2.2 g7
              have H7 := Lib.hid (And.intro B7 (HE.out.1.below B7 HE.out.1.lt))
              clear g7 B7
              go_wp2_with (fail)
              refine (lawake _ H7.out.2).mono ?_
              rintro e W8 ⟨rfl, g8⟩
              have H8 := Lib.hid (gr_call H7.out.1 g8)
              clear g8
              go_wp2_with (fail)
              go_ret
              exact ⟨rfl, H8.out⟩
            · rw [ht2] at p2
              have R := Lib.hid (And.intro ct (And.intro p1 p2))
              clear ct p1 p2 ht2 hl hne hl2
              go_wp2_with (fail)
              refine (R.out.1 _ HZ.out.2).mono ?_
              rintro e W1 ⟨vl, rfl, o1, g1⟩
              have i1 := gr_alloc (Below.refl W1.heap.size W1) (.cells #[.int .i64 0, .int .i64 0] 26)
              have B1 := gr_call (gr_call HZ.out.1 g1) i1
              have H1 := Lib.hid (And.intro (o1.in_.below i1) B1)
              clear o1 g1 i1 B1
              go_wp2_with (fail)
              refine (R.out.2.1 _ _ H1.out.1).mono ?_
              rintro e W2 ⟨u2, rfl, o2, g2⟩
              have H2 := Lib.hid (And.intro o2.in_ (gr_call H1.out.2 g2))
              clear o2 g2
              go_wp2_with (fail)
              refine (R.out.2.2 _ _ H2.out.1).mono ?_
              unfold textV
              rintro e W3 ⟨rfl, g3⟩
              have B3 := gr_call H2.out.2 g3
              have H3 := Lib.hid (And.intro B3 (HE.out.1.below B3 HE.out.1.lt))
              clear g3 B3
              go_wp2_with (fail)
              refine (lawake _ H3.out.2).mono ?_
              rintro e W4 ⟨rfl, g4⟩
              have H4 := Lib.hid (gr_call H3.out.1 g4)
              clear g4
              go_wp2_with (fail)
              go_ret
              exact ⟨rfl, H4.out⟩
          · rw [hl] at ct
            have R := Lib.hid ct
            clear ct hl
            go_wp2_with (fail)
            refine (R.out _ HZ.out.2).mono ?_
            rintro e W1 ⟨vl, rfl, o1, g1⟩
            have i1 := gr_alloc (Below.refl W1.heap.size W1) (.cells #[.int .i64 3, .int .i64 el] 26)
            have B1 := gr_call (gr_call HZ.out.1 g1) i1
            have H1 := Lib.hid (And.intro B1 (HE.out.1.below B1 HE.out.1.lt))
            clear o1 g1 i1 B1
            go_wp2_with (fail)
            refine (lawake _ H1.out.2).mono ?_
            rintro e W2 ⟨rfl, g2⟩
            have H2 := Lib.hid (gr_call H1.out.1 g2)
            clear g2
            go_wp2_with (fail)
            go_ret
            exact ⟨rfl, H2.out⟩
end Go.Proofs.YtpicenopiigfpaaDoor
