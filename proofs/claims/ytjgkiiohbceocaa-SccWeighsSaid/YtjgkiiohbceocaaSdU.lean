/-
  The reference's Heaviest, walked, errors and all; conditions: at most 1000000 edges and weights.
  The reference's Path, walked, errors and all; conditions: at most 1000000 edges.
  The law SccWays, walked; no condition.
-/
import Derived.Test.YtjgkiiohbceocaaSdR
namespace Go.Proofs.Ytjgkiiohbceocaa
open Go.RowKit
set_option linter.unusedVariables false
set_option linter.unusedSimpArgs false

def mayB (wl : List Int) (k : Nat) : Prop := ∀ (t : Nat) (x : Int), t < k → wl[t]? = some x → badW x = false
theorem mayB_more {wl : List Int} {k : Nat} {x : Int} (h : mayB wl k) (hx : wl[k]? = some x) (hb : badW x = false) : mayB wl (k + 1) := by
  intro t y ht hy
  by_cases e : t = k
  · subst e; rw [hx] at hy; cases hy; exact hb
  · exact h t y (by omega) hy
theorem mayB_all {wl : List Int} (h : mayB wl wl.length) : wl.any badW = false := by
  rw [List.any_eq_false]
  intro x hx
  obtain ⟨t, ht, rfl⟩ := List.getElem_of_mem hx
  rw [h t _ ht (List.getElem?_eq_getElem ht)]; decide

set_option maxRecDepth 100000 in
set_option maxHeartbeats 8000000 in
theorem heavy_refB (n : Int) (l : List Edg) (wl : List Int) (hl : l.length ≤ 1000000) (hwl : wl.length ≤ 1000000) (hz : eHv n l wl ≠ 0) (A : Option Addr) (c : Nat) (wv : Value) (w : World) (hA : Cells w A 2 l.length (edAt l)) (hW : CellsAt w wv (intL wl)) :
    Calls Try.prog 19 #[.agg #[.int .i64 n, .slice A l.length c], wv] w fun e w' => e = .returned (.tuple #[.int .i64 0, .slice none 0 0, .int .i64 (eHv n l wl)]) ∧ Below w.heap.size w w' := by
  have b0 := gr_alloc (Below.refl w.heap.size w) (.cells #[.int .i64 n, .slice A l.length c] 24)
  have k0 := Blk.new w 24 #[.int .i64 n, .slice A l.length c]
  have hA0 := hA.below b0
  have hW0 := hW.below b0
  have hco := condense_ref n l hl A c _ hA0
  obtain ⟨WA, wc, hwv, hwx⟩ := hW0.ex
  rw [intL_len] at hwv
  subst hwv
  obtain ⟨E0, hE0⟩ : ∃ E, E = (chkG n l).1 := ⟨_, rfl⟩
  obtain ⟨vn, hvn⟩ : ∃ x, x = vCondN n l := ⟨_, rfl⟩
  obtain ⟨vl, hvl⟩ : ∃ x, x = vCond n l := ⟨_, rfl⟩
  rw [← hE0, ← hvn, ← hvl] at hco
  obtain ⟨EH, hEH⟩ : ∃ E, E = eHv n l wl := ⟨_, rfl⟩
  have hEv : EH = if E0 = 0 then (if (wl.length : Int) = n then (if wl.any badW = true then 2 else 0) else 3) else E0 := by rw [hEH, hE0]; rfl
  rw [← hEH] at hz ⊢
  have hany := @mayB_all wl
  have hwx : ∀ (k : Nat) (x : Int), wl[k]? = some x → ∀ W', Below (w.alloc (.cells #[.int .i64 n, .slice A l.length c] 24)).heap.size (w.alloc (.cells #[.int .i64 n, .slice A l.length c] 24)) W' → ∃ g o, WA = some ⟨g, o, none⟩ ∧ g < W'.heap.size ∧ W'.cell? ⟨g, o + k, none⟩ = some (.int .i64 x) := by
    intro k x hx W' hb
    obtain ⟨g, o, h1, h2, h3⟩ := hwx (fun e => by have := intL_at hx; rw [e] at this; cases this)
    exact ⟨g, o, h1, Nat.lt_of_lt_of_le h2 hb.size, (hb.cell (p := ⟨g, o + k, none⟩) h2).trans (h3 k _ (intL_at hx))⟩
  obtain ⟨ln, hln⟩ : ∃ ln, ln = l.length := ⟨_, rfl⟩
  rw [← hln] at hco b0 k0 hwx ⊢
  have H := Lib.hid (And.intro b0 (And.intro k0 (And.intro hco (And.intro hwx hany))))
  clear b0 k0 hA0 hA hco hln hl hW hW0 hwx hany hE0 hvn hvl hEH
  obtain ⟨nw, hnw⟩ : ∃ x, x = wl.length := ⟨_, rfl⟩
  rw [← hnw] at hwl hEv ⊢
  have HN := Lib.hid hnw
  clear hnw
  by_cases he : E0 = 0
  · subst he
    rw [if_pos rfl] at hEv
    by_cases hlen : (nw : Int) = n
    · rw [if_pos hlen] at hEv
      have hE2 : EH = 2 ∧ wl.any badW = true := by
        by_cases hb : wl.any badW = true
        · rw [if_pos hb] at hEv; exact ⟨hEv, hb⟩
        · rw [if_neg hb] at hEv; exact absurd hEv hz
      have HE := Lib.hid hE2
      clear hE2 hEv hz
      subst hlen
      go_enter Try.func19, Try.ntmps19
      go_wp2_with (fail)
      refine H.out.2.2.1.mono ?_
      rintro e0 W1 ⟨vE, rfl, hE, h1⟩
      obtain ⟨eA, ec, rfl, hcl⟩ := hE
      have kk := (H.out.2.1.call h1).alloc (.cells #[.int .i64 vn, .slice eA vl.length ec] 24)
      have bC := gr_alloc (gr_call H.out.1 h1) (.cells #[.int .i64 vn, .slice eA vl.length ec] 24)
      have bD := gr_alloc h1 (.cells #[.int .i64 vn, .slice eA vl.length ec] 24)
      have r0 := kk.cell' (i := 0) rfl
      have rl := kk.lt
      have D := Lib.hid (And.intro bC bD)
      clear h1 kk hcl bC bD
      go_wp2_with (fail)
      obtain ⟨X1, hX1⟩ : ∃ X1, W1.alloc (.cells #[.int .i64 vn, .slice eA vl.length ec] 24) = X1 := ⟨_, rfl⟩
      rw [hX1] at r0 rl D ⊢
      clear hX1 r0 rl
      go_loopg [9, 8] nw (fun q kv ev wr => ∃ k : Nat, q = nw - k ∧ k ≤ nw ∧ kv = .int .i64 (k : Int) ∧ Below X1.heap.size X1 wr ∧ ((ev = .int .i64 0 ∧ mayB wl k) ∨ ev = .int .i64 2))
      case atStart => exact ⟨0, rfl, Nat.zero_le _, rfl, Below.refl _ _, .inl ⟨rfl, fun t x ht _ => absurd ht (Nat.not_lt_zero t)⟩⟩
      case round =>
        obtain ⟨k, hq, hk, rfl, hbel, hcs⟩ := hrel
        have wk : IntKind.i64.wrap ((k : Int) + 1) = ((k + 1 : Nat) : Int) := (IntWalk.i64_in _ (by omega)).trans (by simp)
        rcases hcs with ⟨rfl, hmay⟩ | rfl
        · by_cases hkn : k < nw
          · have hk' : (k : Int) < (nw : Int) := by omega
            obtain ⟨x, hx⟩ : ∃ x, wl[k]? = some x := ⟨_, List.getElem?_eq_getElem (by rw [← HN.out]; exact hkn)⟩
            obtain ⟨g, o, rfl, hg, hc⟩ := H.out.2.2.2.1 k x hx _ (gr_call D.out.2 hbel)
            by_cases h0 : x < 0
            · have F := Lib.hid (And.intro hq hbel)
              clear hq hbel hmay hx
              go_wp2_with (fail)
              go_roundg (nw - (k + 1))
              case measure => have := F.out.1; omega
              case rel => exact ⟨k + 1, rfl, hkn, by simp, F.out.2, .inr rfl⟩
            · by_cases h1 : x > 1000
              · have F := Lib.hid (And.intro hq hbel)
                clear hq hbel hmay hx
                go_wp2_with (fail)
                go_roundg (nw - (k + 1))
                case measure => have := F.out.1; omega
                case rel => exact ⟨k + 1, rfl, hkn, by simp, F.out.2, .inr rfl⟩
              · have hb : badW x = false := by unfold badW; rw [decide_eq_false h0, decide_eq_false (show ¬ 1000 < x from h1)]; rfl
                have F := Lib.hid (And.intro hq (And.intro hbel (mayB_more hmay hx hb)))
                clear hq hbel hmay hx hb
                go_wp2_with (fail)
                go_roundg (nw - (k + 1))
                case measure => have := F.out.1; omega
                case rel => exact ⟨k + 1, rfl, hkn, by simp, F.out.2.1, .inl ⟨rfl, F.out.2.2⟩⟩
          · exfalso
            have ek : k = nw := by omega
            have := H.out.2.2.2.2 (by rw [← HN.out, ← ek]; exact hmay)
            rw [HE.out.2] at this
            cases this
        · have F := Lib.hid hbel
          clear hbel hq
          by_cases hkn : k < nw
          · have hk' : (k : Int) < (nw : Int) := by omega
            go_wp2_with (fail)
            go_ret3
            exact ⟨by rw [HE.out.1]; rfl, gr_call D.out.1 F.out⟩
          · have hk' : ¬ (k : Int) < (nw : Int) := by omega
            go_wp2_with (fail)
            go_ret3
            exact ⟨by rw [HE.out.1]; rfl, gr_call D.out.1 F.out⟩
    · rw [if_neg hlen] at hEv
      have hlen2 : ((nw : Int) != n) = true := by simpa using hlen
      subst hEv
      clear hz
      go_enter Try.func19, Try.ntmps19
      go_wp2_with (fail)
      refine H.out.2.2.1.mono ?_
      rintro e0 W1 ⟨vE, rfl, hE, h1⟩
      obtain ⟨eA, ec, rfl, hcl⟩ := hE
      have kk := (H.out.2.1.call h1).alloc (.cells #[.int .i64 vn, .slice eA vl.length ec] 24)
      have bC := gr_alloc (gr_call H.out.1 h1) (.cells #[.int .i64 vn, .slice eA vl.length ec] 24)
      have bD := gr_alloc h1 (.cells #[.int .i64 vn, .slice eA vl.length ec] 24)
      have r0 := kk.cell' (i := 0) rfl
      have rl := kk.lt
      have D := Lib.hid (And.intro bC bD)
      clear h1 kk hcl bC bD
      go_wp2_with (fail)
      obtain ⟨X1, hX1⟩ : ∃ X1, W1.alloc (.cells #[.int .i64 vn, .slice eA vl.length ec] 24) = X1 := ⟨_, rfl⟩
      rw [hX1] at r0 rl D ⊢
      clear hX1 r0 rl
      go_loopg [9, 8] 0 (fun q kv ev wr => q = 0 ∧ kv = .int .i64 0 ∧ ev = .int .i64 3 ∧ Below X1.heap.size X1 wr)
      case atStart => exact ⟨rfl, rfl, rfl, Below.refl _ _⟩
      case round =>
        obtain ⟨hq, rfl, rfl, hbel⟩ := hrel
        have F := Lib.hid hbel
        clear hbel hq
        by_cases hkn : 0 < nw
        · have hk' : (0 : Int) < (nw : Int) := by omega
          go_wp2_with (fail)
          go_ret3
          exact ⟨rfl, gr_call D.out.1 F.out⟩
        · have hk' : ¬ (0 : Int) < (nw : Int) := by omega
          go_wp2_with (fail)
          go_ret3
          exact ⟨rfl, gr_call D.out.1 F.out⟩
  · rw [if_neg he] at hEv
    subst hEv
    have he' : (EH != 0) = true := by simpa using he
    have he2 : (EH == 0) = false := by simpa using he
    clear hz
    go_enter Try.func19, Try.ntmps19
    go_wp2_with (fail)
    refine H.out.2.2.1.mono ?_
    rintro e0 W1 ⟨vE, rfl, hE, h1⟩
    obtain ⟨eA, ec, rfl, hcl⟩ := hE
    have kk := (H.out.2.1.call h1).alloc (.cells #[.int .i64 vn, .slice eA vl.length ec] 24)
    have bC := gr_alloc (gr_call H.out.1 h1) (.cells #[.int .i64 vn, .slice eA vl.length ec] 24)
    have bD := gr_alloc h1 (.cells #[.int .i64 vn, .slice eA vl.length ec] 24)
    have r0 := kk.cell' (i := 0) rfl
    have rl := kk.lt
    have D := Lib.hid (And.intro bC bD)
    clear h1 kk hcl bC bD
    go_wp2_with (fail)
    obtain ⟨X1, hX1⟩ : ∃ X1, W1.alloc (.cells #[.int .i64 vn, .slice eA vl.length ec] 24) = X1 := ⟨_, rfl⟩
    rw [hX1] at r0 rl D ⊢
    clear hX1 r0 rl
    go_loopg [9, 8] 0 (fun q kv ev wr => q = 0 ∧ kv = .int .i64 0 ∧ ev = .int .i64 EH ∧ Below X1.heap.size X1 wr)
    case atStart => exact ⟨rfl, rfl, rfl, Below.refl _ _⟩
    case round =>
      obtain ⟨hq, rfl, rfl, hbel⟩ := hrel
      have F := Lib.hid hbel
      clear hbel hq
      by_cases hkn : 0 < nw
      · have hk' : (0 : Int) < (nw : Int) := by omega
        go_wp2_with (fail)
        go_ret3
        exact ⟨rfl, gr_call D.out.1 F.out⟩
      · have hk' : ¬ (0 : Int) < (nw : Int) := by omega
        go_wp2_with (fail)
        go_ret3
        exact ⟨rfl, gr_call D.out.1 F.out⟩
theorem heavy_ref (n : Int) (l : List Edg) (wl : List Int) (hl : l.length ≤ 1000000) (hwl : wl.length ≤ 1000000) (A : Option Addr) (c : Nat) (wv : Value) (w : World) (hA : Cells w A 2 l.length (edAt l)) (hW : CellsAt w wv (intL wl)) :
    Calls Try.prog 19 #[.agg #[.int .i64 n, .slice A l.length c], wv] w fun e w' => ∃ v, e = .returned (.tuple #[.int .i64 ((vHv n l wl).1 : Int), v, .int .i64 (eHv n l wl)]) ∧ NatsAt w' v (vHv n l wl).2 ∧ Below w.heap.size w w' := by
  by_cases hz : eHv n l wl = 0
  · have hck : (chkG n l).1 = 0 := by
      refine Classical.byContradiction fun h => ?_
      unfold eHv at hz
      rw [if_neg h] at hz
      exact h hz
    have hz' := hz
    unfold eHv at hz'
    rw [if_pos hck] at hz'
    obtain ⟨m, rfl, hm, hv, hw, ht⟩ := ok_nat hck
    have hR : rR (m : Int) l = rea m (relE l) := by unfold rR; rw [Int.toNat_natCast]
    have hP : pV (m : Int) l = partsV m (rea m (relE l)) := by unfold pV; rw [hR, Int.toNat_natCast]
    by_cases hlen : (wl.length : Int) = (m : Int)
    · rw [if_pos hlen] at hz'
      have hb : wl.any badW = false := by
        cases h : wl.any badW with
        | false => rfl
        | true => rw [h, if_pos rfl] at hz'; cases hz'
      have hV : vHv (m : Int) l wl = hvV m (relE l) wl (partsV m (rea m (relE l))) := by unfold vHv; rw [hz, if_pos rfl, Int.toNat_natCast, hP]
      rw [hV, hz]
      exact heavy_refA m hm l hl hv hck hw ht wl (by omega) hb A c wv w hA hW
    · rw [if_neg hlen] at hz'; cases hz'
  · have hV : vHv n l wl = (0, []) := by unfold vHv; rw [if_neg hz]
    rw [hV]
    exact (heavy_refB n l wl hl hwl hz A c wv w hA hW).mono (by rintro e W ⟨rfl, h⟩; exact ⟨_, rfl, NatsAt.nil _, h⟩)
end Go.Proofs.Ytjgkiiohbceocaa
namespace Go.Proofs.Ytjgkiiohbceocaa
open Go.RowKit
set_option linter.unusedVariables false
set_option linter.unusedSimpArgs false

set_option maxRecDepth 100000 in
set_option maxHeartbeats 4000000 in
theorem rpath_bad1 (n : Int) (l : List Edg) (f t : Int) (hl : l.length ≤ 1000000) (hz : eReach n l f ≠ 0) (A : Option Addr) (c : Nat) (w : World) (hA : Cells w A 2 l.length (edAt l)) :
    Calls Try.prog 16 #[.agg #[.int .i64 n, .slice A l.length c], .int .i64 f, .int .i64 t] w fun e w' => e = .returned (.tuple #[.slice none 0 0, .int .i64 (eReach n l f)]) ∧ Below w.heap.size w w' := by
  have b0 := gr_alloc (Below.refl w.heap.size w) (.cells #[.int .i64 n, .slice A l.length c] 24)
  have hr := reach_ref n l f hl A c _ (hA.below b0)
  obtain ⟨E, hE⟩ : ∃ E, E = eReach n l f := ⟨_, rfl⟩
  obtain ⟨V, hV⟩ : ∃ V, V = vReach n l f := ⟨_, rfl⟩
  rw [← hE] at hr hz ⊢
  rw [← hV] at hr
  obtain ⟨ln, hln⟩ : ∃ ln, ln = l.length := ⟨_, rfl⟩
  rw [← hln] at hr b0 ⊢
  have H := Lib.hid (And.intro b0 hr)
  have he1 : (E != 0) = true := by simpa using hz
  have he2 : (E == 0) = false := by simpa using hz
  clear b0 hr hE hV hln hA hl hz
  go_enter Try.func16, Try.ntmps16
  go_wp2_with (fail)
  refine H.out.2.mono ?_
  rintro e W1 ⟨v, rfl, _, h1⟩
  have D := Lib.hid (gr_call H.out.1 h1)
  clear h1
  go_wp2_with (fail)
  go_ret2
  exact ⟨rfl, D.out⟩
set_option maxRecDepth 100000 in
set_option maxHeartbeats 4000000 in
theorem rpath_bad2 (n : Int) (l : List Edg) (f t : Int) (hl : l.length ≤ 1000000) (hf : eReach n l f = 0) (hz : eReach n l t ≠ 0) (A : Option Addr) (c : Nat) (w : World) (hA : Cells w A 2 l.length (edAt l)) :
    Calls Try.prog 16 #[.agg #[.int .i64 n, .slice A l.length c], .int .i64 f, .int .i64 t] w fun e w' => e = .returned (.tuple #[.slice none 0 0, .int .i64 (eReach n l t)]) ∧ Below w.heap.size w w' := by
  have b0 := gr_alloc (Below.refl w.heap.size w) (.cells #[.int .i64 n, .slice A l.length c] 24)
  have k0 := Blk.new w 24 #[.int .i64 n, .slice A l.length c]
  have hA0 := hA.below b0
  have hr := fun W hW => reach_ref n l f hl A c W hW
  have hr2 := fun W hW => reach_ref n l t hl A c W hW
  rw [hf] at hr
  obtain ⟨E, hE⟩ : ∃ E, E = eReach n l t := ⟨_, rfl⟩
  obtain ⟨V, hV⟩ : ∃ V, V = vReach n l f := ⟨_, rfl⟩
  obtain ⟨V2, hV2⟩ : ∃ V, V = vReach n l t := ⟨_, rfl⟩
  rw [← hE] at hr2 hz ⊢
  rw [← hV] at hr
  rw [← hV2] at hr2
  obtain ⟨ln, hln⟩ : ∃ ln, ln = l.length := ⟨_, rfl⟩
  rw [← hln] at hr hr2 b0 k0 hA0 ⊢
  have H := Lib.hid (And.intro b0 (And.intro k0 (And.intro hA0 (And.intro hr hr2))))
  have he1 : (E != 0) = true := by simpa using hz
  clear b0 k0 hr hr2 hE hV hV2 hln hA hA0 hl hz hf
  go_enter Try.func16, Try.ntmps16
  go_wp2_with (fail)
  refine (H.out.2.2.2.1 _ H.out.2.2.1).mono ?_
  rintro e W1 ⟨v, rfl, _, h1⟩
  have D := Lib.hid (And.intro (gr_call H.out.1 h1) (H.out.2.2.1.below h1))
  have kk := H.out.2.1.call h1
  have r0 := kk.cell' (i := 0) rfl
  have r1 := kk.cell' (i := 1) rfl
  have rl := kk.lt
  clear h1 kk
  go_wp2_with (fail)
  refine (H.out.2.2.2.2 _ D.out.2).mono ?_
  rintro e W2 ⟨v2, rfl, _, h2⟩
  have G := Lib.hid (gr_call D.out.1 h2)
  clear h2 r0 r1 rl
  go_wp2_with (fail)
  go_ret2
  exact ⟨rfl, G.out⟩
theorem rpE_none : rpE none = 3 := rfl
theorem path_ref (n : Int) (l : List Edg) (f t : Int) (hl : l.length ≤ 1000000) (A : Option Addr) (c : Nat) (w : World) (hA : Cells w A 2 l.length (edAt l)) :
    Calls Try.prog 16 #[.agg #[.int .i64 n, .slice A l.length c], .int .i64 f, .int .i64 t] w fun e w' => ∃ v, e = .returned (.tuple #[v, .int .i64 (ePath n l f t)]) ∧ NatsAt w' v (vPath n l f t) ∧ Below w.heap.size w w' := by
  by_cases he : (chkG n l).1 = 0
  · by_cases hf : 0 ≤ f ∧ f < n
    · have h1 : eReach n l f = 0 := by unfold eReach; rw [if_pos he, if_pos hf]
      by_cases ht : 0 ≤ t ∧ t < n
      · have hp : ePath n l f t = if rR n l f.toNat t.toNat = true then 0 else 3 := by unfold ePath; rw [if_pos he, if_pos ⟨⟨hf.1, ht.1⟩, hf.2, ht.2⟩]
        have hck := he
        obtain ⟨m, rfl, hm, hv, hw, htr⟩ := ok_nat he
        obtain ⟨a, rfl⟩ : ∃ a : Nat, f = (a : Int) := ⟨f.toNat, by omega⟩
        obtain ⟨b, rfl⟩ : ∃ b : Nat, t = (b : Int) := ⟨t.toNat, by omega⟩
        refine (rpath_ok m hm l hl hv hck a b (by omega) (by omega) A c w hA).mono ?_
        rintro e W ⟨v, rfl, h2, h3⟩
        have hR : rR (m : Int) l = rea m (relE l) := by unfold rR; rw [Int.toNat_natCast]
        rw [Int.toNat_natCast, Int.toNat_natCast, hR] at hp
        rw [rpF_eq hw] at h2 ⊢
        have hfar := far_iff hw (t := b) (i := a)
        by_cases h0 : farS m (relE l) b m a = 0
        · rw [if_pos h0] at h2 ⊢
          have hr : ¬ rea m (relE l) a b = true := fun h => hfar.1 h h0
          rw [if_neg hr] at hp
          have hV : vPath (m : Int) l (a : Int) (b : Int) = [] := by unfold vPath; rw [hp, if_neg (by decide)]
          exact ⟨v, by rw [hp]; rfl, by rw [hV]; exact h2, h3⟩
        · rw [if_neg h0] at h2 ⊢
          have hr : rea m (relE l) a b = true := hfar.2 h0
          rw [if_pos hr] at hp
          have hV : vPath (m : Int) l (a : Int) (b : Int) = pathV m (relE l) a b := by unfold vPath; rw [hp, if_pos rfl]; simp only [Int.toNat_natCast]
          exact ⟨v, by rw [hp]; rfl, by rw [hV]; exact h2, h3⟩
      · have h2 : eReach n l t = 2 := by unfold eReach; rw [if_pos he, if_neg ht]
        have hp : ePath n l f t = 2 := by unfold ePath; rw [if_pos he, if_neg (fun h => ht ⟨h.1.2, h.2.2⟩)]
        have hV : vPath n l f t = [] := by unfold vPath; rw [hp, if_neg (by decide)]
        have hc := rpath_bad2 n l f t hl h1 (by rw [h2]; decide) A c w hA
        rw [h2] at hc
        rw [hp, hV]
        exact hc.mono (by rintro e W ⟨rfl, h⟩; exact ⟨_, rfl, NatsAt.nil _, h⟩)
    · have h1 : eReach n l f = 2 := by unfold eReach; rw [if_pos he, if_neg hf]
      have hp : ePath n l f t = 2 := by unfold ePath; rw [if_pos he, if_neg (fun h => hf ⟨h.1.1, h.2.1⟩)]
      have hV : vPath n l f t = [] := by unfold vPath; rw [hp, if_neg (by decide)]
      have hc := rpath_bad1 n l f t hl (by rw [h1]; decide) A c w hA
      rw [h1] at hc
      rw [hp, hV]
      exact hc.mono (by rintro e W ⟨rfl, h⟩; exact ⟨_, rfl, NatsAt.nil _, h⟩)
  · have h1 : eReach n l f = (chkG n l).1 := by unfold eReach; rw [if_neg he]
    have hp : ePath n l f t = (chkG n l).1 := by unfold ePath; rw [if_neg he]
    have hV : vPath n l f t = [] := by unfold vPath; rw [hp, if_neg he]
    have hc := rpath_bad1 n l f t hl (by rw [h1]; exact he) A c w hA
    rw [h1] at hc
    rw [hp, hV]
    exact hc.mono (by rintro e W ⟨rfl, h⟩; exact ⟨_, rfl, NatsAt.nil _, h⟩)
end Go.Proofs.Ytjgkiiohbceocaa
namespace Go.Proofs.Ytjgkiiohbceocaa
open Go.RowKit
set_option linter.unusedVariables false
set_option linter.unusedSimpArgs false

theorem same_i (l : List Int) (A B : Option Addr) (c d : Nat) (hl : l.length ≤ 1000000) (w : World) (hA : Cells w A 1 l.length (intsAt l)) (hB : Cells w B 1 l.length (intsAt l)) :
    Calls Try.prog 17 #[.slice A l.length c, .slice B l.length d] w fun e W' => e = .returned (.bool true) ∧ Below w.heap.size w W' := by
  have h := sameInts l l A B c d hl hl w hA hB
  rwa [decide_eq_true rfl] at h
theorem ints_cells {W : World} {A : Option Addr} {c : Nat} {l : List Int} (h : Cells W A 1 l.length (intsAt l)) : CellsAt W (.slice A l.length c) (intL l) := by
  refine ⟨A, c, by rw [intL_len], fun hn => ?_⟩
  obtain ⟨b, o, h1, h2, h3⟩ := h (by
    cases l with
    | nil => exact absurd rfl hn
    | cons x l => simp)
  refine ⟨b, o, h1, h2, fun j u hu => ?_⟩
  have hj := (List.getElem?_eq_some_iff.1 hu).1
  rw [intL_len] at hj
  have := h3 j 0 hj (by decide)
  rw [Nat.mul_one, Nat.add_zero] at this
  rw [this, ← hu]
  unfold intsAt
  rw [List.getD_eq_getElem?_getD, List.getElem?_eq_getElem hj, intL_at (List.getElem?_eq_getElem hj)]; rfl
/-- The answers are short. -/
theorem ways_len (n : Int) (l : List Edg) (f t : Int) (wl : List Int) : (vReach n l f).length ≤ 1000000 ∧ (vPath n l f t).length ≤ 1000000 ∧ (vHv n l wl).2.length ≤ 1000000 := by
  by_cases he : (chkG n l).1 = 0
  · obtain ⟨m, rfl, hm, hv, hw, ht⟩ := ok_nat he
    have hR : rR (m : Int) l = rea m (relE l) := by unfold rR; rw [Int.toNat_natCast]
    have hP : pV (m : Int) l = partsV m (rea m (relE l)) := by unfold pV; rw [hR, Int.toNat_natCast]
    have hpw := parts_what ht hm
    rw [← hP] at hpw
    refine ⟨?_, ?_, ?_⟩
    · unfold vReach
      split
      · unfold reachV
        refine Nat.le_trans (List.length_filter_le _ _) ?_
        rw [List.length_range, Int.toNat_natCast]; omega
      · exact Nat.zero_le _
    · unfold vPath
      split
      · unfold pathV
        rw [Int.toNat_natCast, List.length_cons, List.length_append, List.length_singleton]
        have h1 := gre_len m (relE l) (farS m (relE l) t.toNat m) (farS m (relE l) t.toNat m f.toNat - 1) f.toNat
        have h2 := farS_bound hw (t := t.toNat) (i := f.toNat) (N := m)
        omega
      · exact Nat.zero_le _
    · unfold vHv
      split
      · rename_i hz
        unfold hvV
        have hbd : wl.any badW = false := by
          unfold eHv at hz
          rw [if_pos he] at hz
          split at hz
          · split at hz
            · cases hz
            · rename_i h; simpa using h
          · cases hz
        have ho : ∀ i, ownF wl (pV (m : Int) l) i ≤ 1000 := ownF_le hbd _
        split
        · exact Nat.zero_le _
        · have := (hvS_bound (m := (pV (m : Int) l).length) (e := edgP (relE l) (pV (m : Int) l)) ho (pV (m : Int) l).length ‹Nat›).2
          unfold hvF
          have := hpw.1
          omega
      · exact Nat.zero_le _
  · have h1 : vReach n l f = [] := by unfold vReach eReach; rw [if_neg he, if_neg he]
    have h2 : vPath n l f t = [] := by unfold vPath ePath; rw [if_neg he, if_neg he]
    have h3 : vHv n l wl = (0, []) := by unfold vHv eHv; rw [if_neg he, if_neg he]
    rw [h1, h2, h3]
    exact ⟨Nat.zero_le _, Nat.zero_le _, Nat.zero_le _⟩

set_option maxRecDepth 100000 in
set_option maxHeartbeats 8000000 in
theorem law_ways (n : Int) (l : List Edg) (f t : Int) (wl : List Int) (A WA : Option Addr) (c wc : Nat) (w : World) (hA : Cells w A 2 l.length (edAt l)) (hW : Cells w WA 1 wl.length (intsAt wl)) :
    Calls Try.prog 3 #[.agg #[.int .i64 n, .slice A l.length c], .int .i64 f, .int .i64 t, .slice WA wl.length wc] w fun e w' => e = .returned (.bool true) ∧ Below w.heap.size w w' := by
  have b0 := gr_alloc (Below.refl w.heap.size w) (.cells #[.int .i64 n, .slice A l.length c] 24)
  have k0 := Blk.new w 24 #[.int .i64 n, .slice A l.length c]
  have hA0 := hA.below b0
  have hW0 := hW.below b0
  have hlg := large_law n l A c (w.alloc (.cells #[.int .i64 n, .slice A l.length c] 24))
  have N := Lib.hid (ways_len n l f t wl)
  have r0 := k0.cell' (i := 0) rfl
  have r1 := k0.cell' (i := 1) rfl
  have rl := k0.lt
  by_cases h2 : 200 < l.length
  · rw [decide_eq_true h2] at hlg
    have H := Lib.hid (And.intro b0 hlg)
    clear b0 k0 hA hA0 hlg h2 hW hW0
    go_enter Try.func3, Try.ntmps3
    go_wp2_with (fail)
    refine H.out.2.mono ?_
    rintro e W1 ⟨rfl, h1⟩
    have D := Lib.hid (gr_call H.out.1 h1)
    clear h1
    go_wp2_with (fail)
    refine (awake_law _).mono ?_
    rintro e W2 ⟨rfl, h2⟩
    have D2 := Lib.hid (gr_call D.out h2)
    clear h2
    go_wp2_with (fail)
    go_ret
    exact ⟨rfl, D2.out⟩
  · rw [decide_eq_false h2] at hlg
    by_cases h3 : 100 < wl.length
    · have h3' : (100 : Int) < (wl.length : Int) := by omega
      have H := Lib.hid (And.intro b0 hlg)
      clear b0 k0 hA hA0 hlg h2 hW hW0
      go_enter Try.func3, Try.ntmps3
      go_wp2_with (fail)
      refine H.out.2.mono ?_
      rintro e W1 ⟨rfl, h1⟩
      have D := Lib.hid (gr_call H.out.1 h1)
      clear h1
      go_wp2_with (fail)
      refine (awake_law _).mono ?_
      rintro e W2 ⟨rfl, h2⟩
      have D2 := Lib.hid (gr_call D.out h2)
      clear h2
      go_wp2_with (fail)
      go_ret
      exact ⟨rfl, D2.out⟩
    have h3' : ¬ (100 : Int) < (wl.length : Int) := by omega
    have hl : l.length ≤ 1000000 := by omega
    have hwl : wl.length ≤ 1000000 := by omega
    have H := Lib.hid (And.intro b0 (And.intro k0 (And.intro hA0 (And.intro hlg hW0))))
    clear b0 k0 hA hA0 hlg h2 hW hW0
    go_enter Try.func3, Try.ntmps3
    go_wp2_with (fail)
    refine H.out.2.2.2.1.mono ?_
    rintro e W1 ⟨rfl, h1⟩
    have D := Lib.hid (And.intro (gr_call H.out.1 h1) (And.intro (H.out.2.1.call h1) (And.intro (H.out.2.2.1.below h1) (H.out.2.2.2.2.below h1))))
    clear h1 r0 r1 rl
    have r0 := D.out.2.1.cell' (i := 0) rfl
    have r1 := D.out.2.1.cell' (i := 1) rfl
    have rl := D.out.2.1.lt
    go_wp2_with (fail)
    refine (own_graph n l A c hl _ D.out.2.2.1).mono ?_
    rintro e W2 ⟨B, d, rfl, kb, h2⟩
    have D1 := Lib.hid (And.intro (gr_call D.out.1 h2) (And.intro (D.out.2.1.call h2) (And.intro (D.out.2.2.1.below h2) (And.intro (D.out.2.2.2.below h2) kb))))
    clear h2 r0 r1 rl kb
    go_wp2_with (fail)
    refine (own_ints wl WA wc hwl _ D1.out.2.2.2.1).mono ?_
    rintro e W3 ⟨D2, d2, rfl, kw, h2⟩
    have ha := gr_alloc (Below.refl W3.heap.size W3) (.cells #[.int .i64 n, .slice B l.length d] 24)
    have h3 := gr_alloc h2 (.cells #[.int .i64 n, .slice B l.length d] 24)
    have S := Lib.hid (And.intro (gr_call D1.out.1 h3) (And.intro (D1.out.2.1.call h3) (And.intro (Blk.new W3 24 #[.int .i64 n, .slice B l.length d]) (And.intro (D1.out.2.2.1.below h3) (And.intro (D1.out.2.2.2.2.below h3) (And.intro (D1.out.2.2.2.1.below h3) (kw.below ha)))))))
    clear h2 h3 ha kw
    have r0 := (S.out.2.1).cell' (i := 0) rfl
    have r1 := (S.out.2.1).cell' (i := 1) rfl
    have rl := (S.out.2.1).lt
    have s0 := (S.out.2.2.1).cell' (i := 0) rfl
    have s1 := (S.out.2.2.1).cell' (i := 1) rfl
    have sl := (S.out.2.2.1).lt
    go_wp2_with (fail)
    refine (reach_code n l f hl B d _ (S.out.2.2.2.2.1)).mono ?_
    rintro e V1 ⟨va, rfl, xa, h⟩
    clear r0 r1 rl s0 s1 sl
    have S2 := Lib.hid (And.intro (gr_call (S.out.1) h) (And.intro ((S.out.2.1).call h) (And.intro ((S.out.2.2.1).call h) (And.intro ((S.out.2.2.2.1).below h) (And.intro ((S.out.2.2.2.2.1).below h) (And.intro ((S.out.2.2.2.2.2.1).below h) (And.intro ((S.out.2.2.2.2.2.2).below h) (xa))))))))
    clear S h xa
    have S := Lib.hid S2.out
    clear S2
    have r0 := (S.out.2.1).cell' (i := 0) rfl
    have r1 := (S.out.2.1).cell' (i := 1) rfl
    have rl := (S.out.2.1).lt
    have s0 := (S.out.2.2.1).cell' (i := 0) rfl
    have s1 := (S.out.2.2.1).cell' (i := 1) rfl
    have sl := (S.out.2.2.1).lt
    go_wp2_with (fail)
    refine (reach_ref n l f hl A c _ (S.out.2.2.2.1)).mono ?_
    rintro e V2 ⟨vb, rfl, xb, h⟩
    clear r0 r1 rl s0 s1 sl
    have S2 := Lib.hid (And.intro (gr_call (S.out.1) h) (And.intro ((S.out.2.1).call h) (And.intro ((S.out.2.2.1).call h) (And.intro ((S.out.2.2.2.1).below h) (And.intro ((S.out.2.2.2.2.1).below h) (And.intro ((S.out.2.2.2.2.2.1).below h) (And.intro ((S.out.2.2.2.2.2.2.1).below h) (And.intro ((S.out.2.2.2.2.2.2.2).below h) (xb)))))))))
    clear S h xb
    have S := Lib.hid S2.out
    clear S2
    have r0 := (S.out.2.1).cell' (i := 0) rfl
    have r1 := (S.out.2.1).cell' (i := 1) rfl
    have rl := (S.out.2.1).lt
    have s0 := (S.out.2.2.1).cell' (i := 0) rfl
    have s1 := (S.out.2.2.1).cell' (i := 1) rfl
    have sl := (S.out.2.2.1).lt
    go_wp2_with (fail)
    refine (path_code n l f t hl B d _ (S.out.2.2.2.2.1)).mono ?_
    rintro e V3 ⟨vc, rfl, xc, h⟩
    clear r0 r1 rl s0 s1 sl
    have S2 := Lib.hid (And.intro (gr_call (S.out.1) h) (And.intro ((S.out.2.1).call h) (And.intro ((S.out.2.2.1).call h) (And.intro ((S.out.2.2.2.1).below h) (And.intro ((S.out.2.2.2.2.1).below h) (And.intro ((S.out.2.2.2.2.2.1).below h) (And.intro ((S.out.2.2.2.2.2.2.1).below h) (And.intro ((S.out.2.2.2.2.2.2.2.1).below h) (And.intro ((S.out.2.2.2.2.2.2.2.2).below h) (xc))))))))))
    clear S h xc
    have S := Lib.hid S2.out
    clear S2
    have r0 := (S.out.2.1).cell' (i := 0) rfl
    have r1 := (S.out.2.1).cell' (i := 1) rfl
    have rl := (S.out.2.1).lt
    have s0 := (S.out.2.2.1).cell' (i := 0) rfl
    have s1 := (S.out.2.2.1).cell' (i := 1) rfl
    have sl := (S.out.2.2.1).lt
    go_wp2_with (fail)
    refine (path_ref n l f t hl A c _ (S.out.2.2.2.1)).mono ?_
    rintro e V4 ⟨vd, rfl, xd, h⟩
    clear r0 r1 rl s0 s1 sl
    have S2 := Lib.hid (And.intro (gr_call (S.out.1) h) (And.intro ((S.out.2.1).call h) (And.intro ((S.out.2.2.1).call h) (And.intro ((S.out.2.2.2.1).below h) (And.intro ((S.out.2.2.2.2.1).below h) (And.intro ((S.out.2.2.2.2.2.1).below h) (And.intro ((S.out.2.2.2.2.2.2.1).below h) (And.intro ((S.out.2.2.2.2.2.2.2.1).below h) (And.intro ((S.out.2.2.2.2.2.2.2.2.1).below h) (And.intro ((S.out.2.2.2.2.2.2.2.2.2).below h) (xd)))))))))))
    clear S h xd
    have S := Lib.hid S2.out
    clear S2
    have r0 := (S.out.2.1).cell' (i := 0) rfl
    have r1 := (S.out.2.1).cell' (i := 1) rfl
    have rl := (S.out.2.1).lt
    have s0 := (S.out.2.2.1).cell' (i := 0) rfl
    have s1 := (S.out.2.2.1).cell' (i := 1) rfl
    have sl := (S.out.2.2.1).lt
    go_wp2_with (fail)
    refine (same_n (vReach n l f) va vb N.out.1 _ (S.out.2.2.2.2.2.2.2.1) (S.out.2.2.2.2.2.2.2.2.1)).mono ?_
    rintro e V5 ⟨rfl, h⟩
    clear r0 r1 rl s0 s1 sl
    have S2 := Lib.hid (And.intro (gr_call (S.out.1) h) (And.intro ((S.out.2.1).call h) (And.intro ((S.out.2.2.1).call h) (And.intro ((S.out.2.2.2.1).below h) (And.intro ((S.out.2.2.2.2.1).below h) (And.intro ((S.out.2.2.2.2.2.1).below h) (And.intro ((S.out.2.2.2.2.2.2.1).below h) (And.intro ((S.out.2.2.2.2.2.2.2.2.2.1).below h) ((S.out.2.2.2.2.2.2.2.2.2.2).below h)))))))))
    clear S h
    have S := Lib.hid S2.out
    clear S2
    have r0 := (S.out.2.1).cell' (i := 0) rfl
    have r1 := (S.out.2.1).cell' (i := 1) rfl
    have rl := (S.out.2.1).lt
    have s0 := (S.out.2.2.1).cell' (i := 0) rfl
    have s1 := (S.out.2.2.1).cell' (i := 1) rfl
    have sl := (S.out.2.2.1).lt
    go_wp2_with (fail)
    refine (same_n (vPath n l f t) vc vd N.out.2.1 _ (S.out.2.2.2.2.2.2.2.1) (S.out.2.2.2.2.2.2.2.2)).mono ?_
    rintro e V6 ⟨rfl, h⟩
    clear r0 r1 rl s0 s1 sl
    have S2 := Lib.hid (And.intro (gr_call (S.out.1) h) (And.intro ((S.out.2.1).call h) (And.intro ((S.out.2.2.1).call h) (And.intro ((S.out.2.2.2.1).below h) (And.intro ((S.out.2.2.2.2.1).below h) (And.intro ((S.out.2.2.2.2.2.1).below h) ((S.out.2.2.2.2.2.2.1).below h)))))))
    clear S h
    have S := Lib.hid S2.out
    clear S2
    have r0 := (S.out.2.1).cell' (i := 0) rfl
    have r1 := (S.out.2.1).cell' (i := 1) rfl
    have rl := (S.out.2.1).lt
    have s0 := (S.out.2.2.1).cell' (i := 0) rfl
    have s1 := (S.out.2.2.1).cell' (i := 1) rfl
    have sl := (S.out.2.2.1).lt
    go_wp2_with (fail)
    refine (heavy_code n l wl hl hwl B d _ _ (S.out.2.2.2.2.1) (ints_cells (S.out.2.2.2.2.2.2))).mono ?_
    rintro e V7 ⟨va, rfl, xa, h⟩
    clear r0 r1 rl s0 s1 sl
    have S2 := Lib.hid (And.intro (gr_call (S.out.1) h) (And.intro ((S.out.2.1).call h) (And.intro ((S.out.2.2.1).call h) (And.intro ((S.out.2.2.2.1).below h) (And.intro ((S.out.2.2.2.2.1).below h) (And.intro ((S.out.2.2.2.2.2.1).below h) (And.intro ((S.out.2.2.2.2.2.2).below h) (xa))))))))
    clear S h xa
    have S := Lib.hid S2.out
    clear S2
    have r0 := (S.out.2.1).cell' (i := 0) rfl
    have r1 := (S.out.2.1).cell' (i := 1) rfl
    have rl := (S.out.2.1).lt
    have s0 := (S.out.2.2.1).cell' (i := 0) rfl
    have s1 := (S.out.2.2.1).cell' (i := 1) rfl
    have sl := (S.out.2.2.1).lt
    go_wp2_with (fail)
    refine (heavy_ref n l wl hl hwl A c _ _ (S.out.2.2.2.1) (ints_cells (S.out.2.2.2.2.2.1))).mono ?_
    rintro e V8 ⟨vb, rfl, xb, h⟩
    clear r0 r1 rl s0 s1 sl
    have S2 := Lib.hid (And.intro (gr_call (S.out.1) h) (And.intro ((S.out.2.1).call h) (And.intro ((S.out.2.2.1).call h) (And.intro ((S.out.2.2.2.1).below h) (And.intro ((S.out.2.2.2.2.1).below h) (And.intro ((S.out.2.2.2.2.2.1).below h) (And.intro ((S.out.2.2.2.2.2.2.1).below h) (And.intro ((S.out.2.2.2.2.2.2.2).below h) (xb)))))))))
    clear S h xb
    have S := Lib.hid S2.out
    clear S2
    have r0 := (S.out.2.1).cell' (i := 0) rfl
    have r1 := (S.out.2.1).cell' (i := 1) rfl
    have rl := (S.out.2.1).lt
    have s0 := (S.out.2.2.1).cell' (i := 0) rfl
    have s1 := (S.out.2.2.1).cell' (i := 1) rfl
    have sl := (S.out.2.2.1).lt
    go_wp2_with (fail)
    refine (same_n (vHv n l wl).2 va vb N.out.2.2 _ (S.out.2.2.2.2.2.2.2.1) (S.out.2.2.2.2.2.2.2.2)).mono ?_
    rintro e V9 ⟨rfl, h⟩
    clear r0 r1 rl s0 s1 sl
    have S2 := Lib.hid (And.intro (gr_call (S.out.1) h) (And.intro ((S.out.2.1).call h) (And.intro ((S.out.2.2.1).call h) (And.intro ((S.out.2.2.2.1).below h) (And.intro ((S.out.2.2.2.2.1).below h) (And.intro ((S.out.2.2.2.2.2.1).below h) ((S.out.2.2.2.2.2.2.1).below h)))))))
    clear S h
    have S := Lib.hid S2.out
    clear S2
    have r0 := (S.out.2.1).cell' (i := 0) rfl
    have r1 := (S.out.2.1).cell' (i := 1) rfl
    have rl := (S.out.2.1).lt
    have s0 := (S.out.2.2.1).cell' (i := 0) rfl
    have s1 := (S.out.2.2.1).cell' (i := 1) rfl
    have sl := (S.out.2.2.1).lt
    go_wp2_with (fail)
    refine (same_g n l B A d c hl _ (S.out.2.2.2.2.1) (S.out.2.2.2.1)).mono ?_
    rintro e V10 ⟨rfl, h⟩
    clear r0 r1 rl s0 s1 sl
    have S2 := Lib.hid (And.intro (gr_call (S.out.1) h) (And.intro ((S.out.2.1).call h) (And.intro ((S.out.2.2.1).call h) (And.intro ((S.out.2.2.2.1).below h) (And.intro ((S.out.2.2.2.2.1).below h) (And.intro ((S.out.2.2.2.2.2.1).below h) ((S.out.2.2.2.2.2.2).below h)))))))
    clear S h
    have S := Lib.hid S2.out
    clear S2
    have r0 := (S.out.2.1).cell' (i := 0) rfl
    have r1 := (S.out.2.1).cell' (i := 1) rfl
    have rl := (S.out.2.1).lt
    have s0 := (S.out.2.2.1).cell' (i := 0) rfl
    have s1 := (S.out.2.2.1).cell' (i := 1) rfl
    have sl := (S.out.2.2.1).lt
    go_wp2_with (fail)
    refine (same_i wl D2 WA d2 wc hwl _ (S.out.2.2.2.2.2.2) (S.out.2.2.2.2.2.1)).mono ?_
    rintro e V11 ⟨rfl, h⟩
    clear r0 r1 rl s0 s1 sl
    have S2 := Lib.hid (And.intro (gr_call (S.out.1) h) (And.intro ((S.out.2.1).call h) (And.intro ((S.out.2.2.1).call h) (And.intro ((S.out.2.2.2.1).below h) (And.intro ((S.out.2.2.2.2.1).below h) (And.intro ((S.out.2.2.2.2.2.1).below h) ((S.out.2.2.2.2.2.2).below h)))))))
    clear S h
    have S := Lib.hid S2.out
    clear S2
    have r0 := (S.out.2.1).cell' (i := 0) rfl
    have r1 := (S.out.2.1).cell' (i := 1) rfl
    have rl := (S.out.2.1).lt
    have s0 := (S.out.2.2.1).cell' (i := 0) rfl
    have s1 := (S.out.2.2.1).cell' (i := 1) rfl
    have sl := (S.out.2.2.1).lt
    go_wp2_with (fail)
    refine (awake_law _).mono ?_
    rintro e WZ ⟨rfl, h⟩
    have Z := Lib.hid (gr_call (S.out.1) h)
    clear h
    go_wp2_with (fail)
    go_ret
    exact ⟨rfl, Z.out⟩
end Go.Proofs.Ytjgkiiohbceocaa
