/-
  query's Join, Append and Canonical, walked; conditions: lists and strings are not too long, a variable of the library is an int.
-/
import Derived.Test.YtfbkbnojbbpopaaDoorQyM
import Derived.Test.YtfbkbnojbbpopaaDoorQyD
namespace Go.Proofs.YtfbkbnojbbpopaaDoor
open Go.RowKit
set_option linter.unusedVariables false
set_option linter.unusedSimpArgs false

theorem infoStr : (Tryd.prog.info? 9).map (fun i => (i.zero, i.size, i.bytes)) = some (some (.string ByteArray.empty), 1, 16) := by kernel_rfl
theorem one_str (a : ByteArray) : ∀ u ∈ [Value.string a], u.oneCell' = true := by
  intro u hu
  simp at hu
  subst hu; rfl
theorem empty_dec (s : ByteArray) : (s.toList == []) = decide (s.size = 0) := by
  by_cases h : s.size = 0
  · rw [decide_eq_true h, empty_of_size h, beq_lit]; simp
  · rw [decide_eq_false h, nonempty_b s (by omega)]
def partsV (l : List Pr) : List Value := l.map fun p => .string (mkB (partL p))
theorem partsV_snoc (l : List Pr) (k : Nat) (p : Pr) (hp : l[k]? = some p) : partsV (l.take (k + 1)) = partsV (l.take k) ++ [.string (mkB (partL p))] := by
  unfold partsV
  rw [List.take_add_one, hp, List.map_append]; rfl
theorem any_take (l : List Pr) (k : Nat) (p : Pr) (hp : l[k]? = some p) : (l.take (k + 1)).any badP = ((l.take k).any badP || badP p) := by
  rw [List.take_add_one, hp, List.any_append]; simp
theorem part_len (p : Pr) (h1 : p.n.size ≤ 1000000) (h2 : p.v.size ≤ 1000000) : (partL p).length ≤ 6000001 := by
  have e1 := encQ_len p.n.data.toList
  have e2 := encQ_len p.v.data.toList
  rw [size_data] at e1 e2
  unfold partL
  rw [List.length_append]
  split
  · simp; omega
  · rw [List.length_cons]; omega
theorem join_len (l : List Pr) (h : ∀ p ∈ l, p.n.size ≤ 1000000 ∧ p.v.size ≤ 1000000) : (joinL l).length ≤ l.length * 6000002 := by
  induction l with
  | nil => simp [joinL_nil]
  | cons x t ih =>
    have hx := part_len x (h x (by simp)).1 (h x (by simp)).2
    cases t with
    | nil => rw [joinL_one]; simp; omega
    | cons y u =>
      have := ih (fun p hp => h p (by simp at hp ⊢; exact .inr hp))
      rw [joinL_cons, List.length_append, List.length_cons]
      simp only [List.length_cons] at this ⊢
      omega
theorem own_strs {W : World} {B : Nat} {v : Value} {l : List Pr} (h : W.ownsRow B 9 1 v l.length (partsV l)) (h0 : l ≠ []) : ∃ g c, v = .slice (some ⟨g, 0, none⟩) l.length c ∧ g < W.heap.size ∧ l.length ≤ c ∧ ∀ (j : Nat) x, (l.map fun p => mkB (partL p))[j]? = some x → W.cell? ⟨g, 0 + j, none⟩ = some (.string x) := by
  rcases h.2 with ⟨_, hz⟩ | ⟨g, cap, cur, rfl, hBg, hg, hnc, hcm, hcs, htk⟩
  · exact absurd (List.eq_nil_of_length_eq_zero hz) h0
  · refine ⟨g, cap, rfl, (Array.getElem?_eq_some_iff.1 hg).1, hnc, fun j x hj => ?_⟩
    have hj2 : (partsV l)[j]? = some (.string x) := by
      unfold partsV
      rw [List.getElem?_map] at hj ⊢
      cases e : l[j]? with
      | none => rw [e] at hj; cases hj
      | some p => rw [e] at hj; simp at hj ⊢; exact hj
    rw [← htk, List.getElem?_take] at hj2
    split at hj2
    · rw [Nat.zero_add, cell_of_row W g j cur _ _ hg]; simpa using hj2
    · cases hj2

def JoinPost (w : World) (l : List Pr) (e : Ending) (W' : World) : Prop := e = .returned (.tuple #[.string (joinS l), .int .i64 (joinE l)]) ∧ Below w.heap.size w W'
theorem joinE_bad {l : List Pr} {k : Nat} {p : Pr} (hp : l[k]? = some p) (hb : badP p = true) : joinE l = 3 ∧ joinS l = mkB [] := by
  have : joinE l = 3 := by unfold joinE; rw [if_pos (List.any_eq_true.2 ⟨p, List.mem_of_getElem? hp, hb⟩)]
  exact ⟨this, by unfold joinS; rw [this]; rfl⟩

set_option maxRecDepth 100000 in
set_option maxHeartbeats 4000000 in
theorem qjoin (l : List Pr) (hl : l.length ≤ 1000001) (hsz : ∀ p ∈ l, p.n.size ≤ 1000000 ∧ p.v.size ≤ 1000000) (A : Option Addr) (c : Nat) (w : World) (hA : Cells w A 3 l.length (prAt l)) :
    Calls Tryd.prog 24 #[.slice A l.length c] w (JoinPost w l) := by
  obtain ⟨i0, hi, hz0, hz1, hz2⟩ := info_parts infoStr
  obtain ⟨n, hn⟩ : ∃ n, n = l.length := ⟨_, rfl⟩
  have HA := Lib.hid (And.intro hA (And.intro hn hsz))
  rw [← hn] at hl ⊢
  clear hA hn hsz
  go_enter Tryd.func24, Tryd.ntmps24
  go_wp2_with (fail)
  go_loopw [4, 11] (fun ov iv wr => ∃ k : Nat, k ≤ n ∧ iv = .int .i64 (k : Int) ∧ (l.take k).any badP = false ∧ wr.ownsRow w.heap.size 9 1 ov k (partsV (l.take k)) ∧ Below w.heap.size w wr) (fun _ iv _ => n - (intOf iv).toNat)
  case atStart => exact ⟨0, Nat.zero_le _, rfl, rfl, World.ownsRow_nil _ _ _ _, Below.refl _ _⟩
  case round =>
    obtain ⟨k, hk, rfl, hbad, hown, hbel⟩ := hrel
    obtain ⟨va, vc, rfl⟩ := own_slice hown
    by_cases hlt : k < n
    · obtain ⟨p, hp⟩ : ∃ p, l[k]? = some p := ⟨_, List.getElem?_eq_getElem (by rw [← HA.out.2.1]; exact hlt)⟩
      obtain ⟨sz1, sz2⟩ := HA.out.2.2 p (List.mem_of_getElem? hp)
      obtain ⟨ab, ao, rfl, hab, c0, c1, c2⟩ := cells_pair (HA.out.1.below hbel) hp
      have hbz := hbel.size
      have hbd := any_take l k p hp
      have hpv := partsV_snoc l k p hp
      have X0 := Blk.new wr 44 #[.string p.n, .string p.v, .bool p.b]
      have Y0 := gr_alloc hbel (.cells #[.string p.n, .string p.v, .bool p.b] 44)
      have O0 := hown.alloc (.cells #[.string p.n, .string p.v, .bool p.b] 44)
      have e1 := empty_dec p.n
      have e2 := empty_dec p.v
      have B := Lib.hid (And.intro hbad (And.intro hown (And.intro hbel (And.intro hp (And.intro hbd (And.intro hpv (And.intro X0 (And.intro Y0 O0))))))))
      clear hbad hown hbel hp hbd hpv X0 Y0 O0
      obtain ⟨b, hb⟩ : ∃ b, b = p.b := ⟨_, rfl⟩
      cases b
      · have hgood : badP p = false := by unfold badP; rw [← hb]; rfl
        have hpart : partL p = encQ p.n.data.toList ++ 61 :: encQ p.v.data.toList := by unfold partL; rw [← hb]; rfl
        rw [← hb] at c2
        have HG := Lib.hid (And.intro hgood (And.intro hpart hb))
        clear hgood hpart hb e1 e2
        go_wp2_with (fail)
        refine (qencode p.n _ (by omega)).mono ?_
        rintro e W1 ⟨rfl, h1⟩
        rw [HG.out.2.2] at h1
        have k1 := B.out.2.2.2.2.2.2.1.call h1
        rw [← HG.out.2.2] at k1
        have d0 := k1.cell' (i := 0) rfl
        have d1 := k1.cell' (i := 1) rfl
        have d2 := k1.cell' (i := 2) rfl
        have kl := k1.lt
        have H1 := Lib.hid h1
        clear h1 k1
        go_wp2_with (fail)
        refine (qencode p.v _ (by omega)).mono ?_
        rintro e W2 ⟨rfl, h2⟩
        have hB2 : Below w.heap.size w W2 := gr_call (gr_call B.out.2.2.2.2.2.2.2.1 H1.out) h2
        have own1 := own_below (own_below B.out.2.2.2.2.2.2.2.2 H1.out (Nat.le_refl _)) h2 (Nat.le_refl _)
        have hwz := hB2.size
        have HB2 := Lib.hid hB2
        clear hB2 h2 d0 d1 d2
        have hs1 : (mkB (encQ p.n.data.toList)).size ≤ 3000000 := by have := encQ_len p.n.data.toList; rw [size_data] at this; rw [mkB_size]; omega
        have hs2 : (mkB (encQ p.v.data.toList)).size ≤ 3000000 := by have := encQ_len p.v.data.toList; rw [size_data] at this; rw [mkB_size]; omega
        have hcat : mkB (encQ p.n.data.toList) ++ ((⟨#[61]⟩ : ByteArray) ++ mkB (encQ p.v.data.toList)) = mkB (partL p) := by
          rw [HG.out.2.1, show (⟨#[61]⟩ : ByteArray) = mkB [61] from rfl, mkB_append, mkB_append]; rfl
        go_wp2_with (at_builtin; refine wpList_append_own _ rfl _ _ 76 rfl w.heap.size 9 i0 _ 1 16 Tryd.underlying76 hi hz0 hz1 hz2 rfl (by decide) _ _ _ rfl (own1.alloc _) ⟨W2.heap.size, 0, none⟩ 1 1 [.string (mkB (partL p))] rfl rfl ?c1 ?c2 ?c3 ?c4 ?c5 ?_)
        case c1 => exact one_new rfl _ _
        case c2 => exact one_str _
        case c3 => unfold maxLen; omega
        case c4 => omega
        case c5 => simp; omega
        intro v' W3 hown' hgrow _
        obtain ⟨vb, vd, rfl⟩ := own_slice hown'
        have W := Lib.hid (And.intro hown' (And.intro hgrow own1))
        clear hown' hgrow own1
        go_wp2_with (fail)
        go_roundw
        case measure => simp [intOf]; omega
        case rel =>
          obtain ⟨hown', hgrow, own1⟩ := W.out
          refine ⟨k + 1, by omega, rfl, by rw [B.out.2.2.2.2.1, B.out.1, HG.out.1]; rfl, by rw [B.out.2.2.2.2.2.1]; exact hown', ?_⟩
          exact (gr_alloc HB2.out (.cells #[.string (mkB (partL p))] 9)).grown hgrow (gr_alloc HB2.out _).size (fun q hq => (own1.lt q hq).1)
      · have hpart : partL p = encQ p.n.data.toList := by unfold partL; rw [← hb]; simp
        rw [← hb] at c2
        have hbad2 : badP p = (decide (p.n.size = 0) || !decide (p.v.size = 0)) := by unfold badP; rw [← hb]; rfl
        have HP := Lib.hid (And.intro hpart (And.intro hbad2 hb))
        clear hpart hbad2 hb
        by_cases hn0 : p.n.size = 0
        · rw [decide_eq_true hn0] at e1
          have hb1 : badP p = true := by rw [HP.out.2.1, decide_eq_true hn0]; rfl
          have HJ := Lib.hid (joinE_bad B.out.2.2.2.1 hb1)
          clear hn0 e2 hb1
          go_wp2_with (fail)
          go_ret2
          exact ⟨by rw [HJ.out.1, HJ.out.2]; rfl, gr_alloc B.out.2.2.1 _⟩
        · rw [decide_eq_false hn0] at e1
          by_cases hv0 : p.v.size = 0
          · rw [decide_eq_true hv0] at e2
            have hgood : badP p = false := by rw [HP.out.2.1, decide_eq_false hn0, decide_eq_true hv0]; rfl
            have HG := Lib.hid (And.intro hgood (And.intro HP.out.1 HP.out.2.2))
            clear hn0 hv0 hgood
            go_wp2_with (fail)
            refine (qencode p.n _ (by omega)).mono ?_
            rintro e W1 ⟨rfl, h1⟩
            rw [HG.out.2.2] at h1
            have k1 := B.out.2.2.2.2.2.2.1.call h1
            rw [← HG.out.2.2] at k1
            have d0 := k1.cell' (i := 0) rfl
            have d1 := k1.cell' (i := 1) rfl
            have d2 := k1.cell' (i := 2) rfl
            have kl := k1.lt
            have hB2 : Below w.heap.size w W1 := gr_call B.out.2.2.2.2.2.2.2.1 h1
            have own1 := own_below B.out.2.2.2.2.2.2.2.2 h1 (Nat.le_refl _)
            have hwz := hB2.size
            have HB2 := Lib.hid hB2
            clear hB2 h1 k1 e1 e2
            have hcat : mkB (encQ p.n.data.toList) = mkB (partL p) := by rw [HG.out.2.1]
            rw [hcat]
            go_wp2_with (at_builtin; refine wpList_append_own _ rfl _ _ 76 rfl w.heap.size 9 i0 _ 1 16 Tryd.underlying76 hi hz0 hz1 hz2 rfl (by decide) _ _ _ rfl (own1.alloc _) ⟨W1.heap.size, 0, none⟩ 1 1 [.string (mkB (partL p))] rfl rfl ?c1 ?c2 ?c3 ?c4 ?c5 ?_)
            case c1 => exact one_new rfl _ _
            case c2 => exact one_str _
            case c3 => unfold maxLen; omega
            case c4 => omega
            case c5 => simp; omega
            intro v' W3 hown' hgrow _
            obtain ⟨vb, vd, rfl⟩ := own_slice hown'
            have W := Lib.hid (And.intro hown' (And.intro hgrow own1))
            clear hown' hgrow own1
            go_wp2_with (fail)
            go_roundw
            case measure => simp [intOf]; omega
            case rel =>
              obtain ⟨hown', hgrow, own1⟩ := W.out
              refine ⟨k + 1, by omega, rfl, by rw [B.out.2.2.2.2.1, B.out.1, HG.out.1]; rfl, by rw [B.out.2.2.2.2.2.1]; exact hown', ?_⟩
              exact (gr_alloc HB2.out (.cells #[.string (mkB (partL p))] 9)).grown hgrow (gr_alloc HB2.out _).size (fun q hq => (own1.lt q hq).1)

          · rw [decide_eq_false hv0] at e2
            have hb1 : badP p = true := by rw [HP.out.2.1, decide_eq_false hn0, decide_eq_false hv0]; rfl
            have HJ := Lib.hid (joinE_bad B.out.2.2.2.1 hb1)
            clear hn0 hv0 hb1
            go_wp2_with (fail)
            go_ret2
            exact ⟨by rw [HJ.out.1, HJ.out.2]; rfl, gr_alloc B.out.2.2.1 _⟩
    · have hkn : k = n := by omega
      subst hkn
      have hbz := hbel.size
      have ht : l.take k = l := List.take_of_length_le (by rw [HA.out.2.1]; exact Nat.le_refl _)
      rw [ht] at hbad hown
      have hsl := join_len l HA.out.2.2
      rw [← HA.out.2.1] at hsl
      have hJ : joinE l = (if 128 < (joinL l).length then 4 else 0) := by unfold joinE; rw [if_neg (by rw [hbad]; decide)]
      have hcall : ∀ W, W = wr → Calls Tryd.prog 46 #[.slice va k vc, .string ⟨#[38]⟩] W fun e w' => e = .returned (.string (mkB (joinL l))) ∧ Below W.heap.size W w' := by
        rintro W rfl
        by_cases h0 : l = []
        · have hk0 : k = 0 := by rw [HA.out.2.1, h0]; rfl
          subst hk0
          refine (Tryd.strings_Join_none va vc ⟨#[38]⟩ W).mono ?_
          rintro e w' ⟨rfl, rfl⟩
          exact ⟨by rw [h0]; rfl, Below.refl _ _⟩
        · have hown' : W.ownsRow w.heap.size 9 1 (.slice va k vc) l.length (partsV l) := by rw [← HA.out.2.1]; exact hown
          obtain ⟨g, c', e, hg, hcap, hcl⟩ := own_strs hown' h0
          injection e with e1 e2 e3
          subst e1 e3
          have hm : ((l.map fun p => mkB (partL p)).map (fun x : ByteArray => x.data.toList)) = l.map partL := by
            rw [List.map_map]
            apply List.map_congr_left
            intro p _
            exact mkB_data _
          have := Tryd.strings_Join g 0 vc (l.map fun p => mkB (partL p)) ⟨#[38]⟩ W hcl hg (by rw [List.length_map]; omega) (by rw [List.length_map]; exact hcap) (by rw [hm]; show (joinL l).length ≤ _; omega)
          rw [List.length_map, hm, ← HA.out.2.1] at this
          exact this
      have B := Lib.hid (And.intro hbel (And.intro hJ hcall))
      clear hbad hown hbel hJ hcall
      have hjs : (mkB (joinL l)).size = (joinL l).length := mkB_size _
      go_wp2_with (fail)
      refine (B.out.2.2 _ rfl).mono ?_
      rintro e W2 ⟨rfl, h2⟩
      have H2 := Lib.hid (gr_call B.out.1 h2)
      clear h2
      by_cases hlong : 128 < (joinL l).length
      · have hJ2 : joinE l = 4 ∧ joinS l = mkB [] := by
          have : joinE l = 4 := by rw [B.out.2.1, if_pos hlong]
          exact ⟨this, by unfold joinS; rw [this]; rfl⟩
        have HJ := Lib.hid hJ2
        clear hJ2
        have hlong' : (128 : Int) < ((joinL l).length : Int) := by omega
        go_wp2_with (fail)
        go_ret2
        exact ⟨by rw [HJ.out.1, HJ.out.2]; rfl, H2.out⟩
      · have hJ2 : joinE l = 0 ∧ joinS l = mkB (joinL l) := by
          have : joinE l = 0 := by rw [B.out.2.1, if_neg hlong]
          exact ⟨this, by unfold joinS; rw [if_pos this]⟩
        have HJ := Lib.hid hJ2
        clear hJ2
        have hlong' : ¬ (128 : Int) < ((joinL l).length : Int) := by omega
        go_wp2_with (fail)
        go_ret2
        exact ⟨by rw [HJ.out.1, HJ.out.2]; rfl, H2.out⟩
end Go.Proofs.YtfbkbnojbbpopaaDoor
