/-
  The reference's chain, walked; conditions: the components are in order, at most 64 of them.
-/
import Derived.Test.YtjgkiiohbceocaaSdP
import Derived.BigQuiet
namespace Go.Proofs.Ytjgkiiohbceocaa
open Go.RowKit
set_option linter.unusedVariables false
set_option linter.unusedSimpArgs false

def pX (own B : Nat → Nat) (i : Nat) (x : Nat × Nat) : Bool := decide (x.1 = i) && decide (own i + B x.2 = B i)
theorem pX_miss {own B : Nat → Nat} {i : Nat} {x : Nat × Nat} (h : x.1 ≠ i ∨ own i + B x.2 ≠ B i) : pX own B i x = false := by
  unfold pX
  rcases h with h | h
  · rw [decide_eq_false h, Bool.false_and]
  · rw [decide_eq_false h, Bool.and_false]
theorem pX_more {own B : Nat → Nat} {i k : Nat} {L : List (Nat × Nat)} {x : Nat × Nat} (h : ∀ (t : Nat) (y : Nat × Nat), t < k → L[t]? = some y → pX own B i y = false) (hx : L[k]? = some x) (hp : pX own B i x = false) : ∀ (t : Nat) (y : Nat × Nat), t < k + 1 → L[t]? = some y → pX own B i y = false := by
  intro t y ht hy
  by_cases e : t = k
  · subst e; rw [hx] at hy; cases hy; exact hp
  · exact h t y (by omega) hy
theorem next_hit {own B : Nat → Nat} {i k : Nat} {L : List (Nat × Nat)} {x : Nat × Nat} (h : ∀ (t : Nat) (y : Nat × Nat), t < k → L[t]? = some y → pX own B i y = false) (hx : L[k]? = some x) (h1 : x.1 = i) (h2 : own i + B x.2 = B i) : nextF L own B i = some x := by
  obtain ⟨hk, rfl⟩ := List.getElem?_eq_some_iff.1 hx
  unfold nextF
  rw [List.find?_eq_some_iff_getElem]
  refine ⟨by rw [decide_eq_true h1, decide_eq_true h2]; rfl, k, hk, rfl, fun t ht => ?_⟩
  have := h t _ ht (List.getElem?_eq_getElem (by omega))
  unfold pX at this
  rw [this]; rfl
theorem next_none {own B : Nat → Nat} {i : Nat} {L : List (Nat × Nat)} (h : ∀ (t : Nat) (y : Nat × Nat), t < L.length → L[t]? = some y → pX own B i y = false) : nextF L own B i = none := by
  unfold nextF
  rw [List.find?_eq_none]
  intro x hx
  obtain ⟨t, ht, rfl⟩ := List.getElem_of_mem hx
  have := h t _ ht (List.getElem?_eq_getElem ht)
  unfold pX at this
  rw [this]; decide
theorem bst_le {m : Nat} {e : Nat → Nat → Bool} {own : Nat → Nat} (ho : ∀ i, own i ≤ 1000) (k : Nat) : bstF m e own k ≤ 1000 * m := (hvS_bound ho m k).1

set_option maxRecDepth 100000 in
set_option maxHeartbeats 8000000 in
theorem chain_ref (np : Nat) (hnp : np ≤ 64) (e : Nat → Nat → Bool) (own : Nat → Nat) (ho : ∀ i, own i ≤ 1000) (htopo : ∀ i k, k ≤ i → k ≠ i → e i k = false) (at_ : Nat) (hat : at_ < np) (gO gB : Nat) (eA : Option Addr) (ec nL : Nat) (w : World) (hnL : nL = (condL np e).length) (hO : Blk w gO 3 (numC np own)) (hB : Blk w gB 3 (numC np (bstF np e own))) (hE : Cells w eA 2 ((condL np e).map conE).length (edAt ((condL np e).map conE))) :
    Calls Try.prog 51 #[.agg #[.int .i64 (np : Int), .slice eA nL ec], .slice (some ⟨gO, 0, none⟩) np np, .slice (some ⟨gB, 0, none⟩) np np, .int .i64 (at_ : Int)] w fun e' w' => ∃ v, e' = .returned v ∧ NatsAt w' v (hvF np e own at_).2 ∧ Below w.heap.size w w' := by
  have b0 := gr_alloc (Below.refl w.heap.size w) (.cells #[.int .i64 (np : Int), .slice eA nL ec] 24)
  have k0 := Blk.new w 24 #[.int .i64 (np : Int), .slice eA nL ec]
  obtain ⟨X, hX⟩ : ∃ X, w.alloc (.cells #[.int .i64 (np : Int), .slice eA nL ec] 24) = X := ⟨_, rfl⟩
  rw [hX] at b0 k0
  have hsz : X.heap.size = w.heap.size + 1 := by rw [← hX]; simp
  have hnew := new_nat X at_
  have bn := gr_alloc (Below.refl X.heap.size X) (.cells #[.int .i64 (at_ : Int)] 3)
  have hLlen : nL ≤ 4096 := by rw [hnL]; exact Nat.le_trans (condL_len _ _) (Nat.le_trans (Nat.mul_le_mul hnp hnp) (by decide))
  obtain ⟨L, hL⟩ : ∃ L, L = condL np e := ⟨_, rfl⟩
  have hst := fun i hi => chain_what (m := np) (e := e) (own := own) (i := i) hi (htopo i)
  have hmem : ∀ (t a b : Nat), L[t]? = some (a, b) → a < np ∧ b < np := fun t a b h => by
    have := List.mem_of_getElem? h
    rw [hL] at this
    obtain ⟨h1, h2, _, _⟩ := mem_condTo.1 this
    exact ⟨h1, h2⟩
  rw [← hL] at hnL hE hst
  have hbl := fun k => bst_le (m := np) (e := e) ho k
  obtain ⟨Bf, hBf⟩ : ∃ B, B = bstF np e own := ⟨_, rfl⟩
  rw [← hBf] at hB hst
  have hbl : ∀ k, Bf k ≤ 64000 := fun k => by rw [hBf]; have := hbl k; have := Nat.mul_le_mul_left 1000 hnp; omega
  obtain ⟨F, hF⟩ : ∃ F, F = fun i => (hvF np e own i).2 := ⟨_, rfl⟩
  have hst : ∀ i, i < np → (Bf i = own i ∧ F i = [i]) ∨ (Bf i ≠ own i ∧ ∃ k, i < k ∧ k < np ∧ e i k = true ∧ nextF L own Bf i = some (i, k) ∧ F i = i :: F k ∧ Bf i = own i + Bf k) := by rw [hF]; exact hst
  have hFa : (hvF np e own at_).2 = F at_ := by rw [hF]
  rw [hFa]
  have H := Lib.hid (And.intro b0 (And.intro k0 (And.intro (hO.call b0) (And.intro (hB.call b0) (And.intro (hE.below b0) (And.intro hnew (And.intro bn (And.intro hst (And.intro hmem (And.intro hnL (And.intro hbl ho)))))))))))
  have HX := Lib.hid hX
  have HZ := Lib.hid hsz
  clear b0 k0 hnew bn hL hst hmem hnL hO hB hE htopo hBf hF hFa hX hbl ho hsz
  go_enter Try.func51, Try.ntmps51
  go_wp2_with (fail)
  rw [HX.out, ← HZ.out]
  go_loopg [3, 9] (np - at_) (fun q av ov wr => ∃ (i : Nat) (pre : List Nat), q = np - i ∧ i < np ∧ av = .int .i64 (i : Int) ∧ Below X.heap.size X wr ∧ OwnN wr X.heap.size ov (pre ++ [i]) ∧ F at_ = pre ++ F i ∧ pre.length ≤ i)
  case atStart => exact ⟨at_, [], rfl, hat, rfl, H.out.2.2.2.2.2.2.1, H.out.2.2.2.2.2.1, rfl, Nat.zero_le _⟩
  case round =>
    obtain ⟨i, pre, hq, hi, rfl, hbel, hown, hF, hpl⟩ := hrel
    have kO := H.out.2.2.1.call hbel
    have kB := H.out.2.2.2.1.call hbel
    have cO := kO.cell' (vecC_at (fun k => .int .i64 ((own k : Nat) : Int)) hi)
    have cB := kB.cell' (vecC_at (fun k => .int .i64 ((Bf k : Nat) : Int)) hi)
    have lO := kO.lt
    have lB := kB.lt
    have hi' : (i : Int) < (np : Int) := by omega
    obtain ⟨oa, oc, hov⟩ := own_slice hown
    obtain ⟨nw, hnw⟩ : ∃ x, x = (pre ++ [i]).length := ⟨_, rfl⟩
    have hnw64 : nw ≤ 100 := by rw [hnw, List.length_append, List.length_singleton]; omega
    rw [← hnw] at hov
    have hox := H.out.2.2.2.2.2.2.2.2.2.2.2 i
    have hbx := H.out.2.2.2.2.2.2.2.2.2.2.1 i
    obtain ⟨x, hx⟩ : ∃ x, x = own i := ⟨_, rfl⟩
    obtain ⟨y, hy⟩ : ∃ y, y = Bf i := ⟨_, rfl⟩
    have hcase := H.out.2.2.2.2.2.2.2.1 i hi
    rw [← hx] at cO hox hcase
    rw [← hy] at cB hbx hcase
    subst hov
    rcases hcase with ⟨h1, h2⟩ | ⟨h1, k', hik, hkn, hek, hnx, hc, hbk⟩
    · subst h1
      have G := Lib.hid (And.intro hbel (And.intro hown (And.intro hF h2)))
      clear hbel hown hF h2 hq kO kB hx hy hnw
      go_wp2_with (fail)
      go_region
      go_wp2_with (fail)
      go_ret
      exact ⟨_, rfl, by rw [G.out.2.2.1, G.out.2.2.2]; exact G.out.2.1.at_.below (gr_drew (Below.refl _ _)), gr_call H.out.1 (gr_drew G.out.1)⟩
    · have hyx : ¬ ((y : Int) = (x : Int)) := by omega
      have hyx2 : ((y : Int) != (x : Int)) = true := by simpa using hyx
      rename World => wo
      have B := Lib.hid (And.intro hbel (And.intro hown (And.intro hF (And.intro hq (And.intro hc (And.intro hbk (And.intro hnx (And.intro hnw (And.intro hx (And.intro hy (And.intro hpl (And.intro kO kB))))))))))))
      clear hbel hown hF hq kO kB hx hy hnw hc hbk hnx hek hpl
      go_wp2_with (fail)
      go_region
      go_wp2_with (fail)
      clear cO cB lO lB hyx hyx2
      go_loopg [10, 11] nL (fun q nv kv wr => ∃ k : Nat, q = nL - k ∧ k ≤ nL ∧ kv = .int .i64 (k : Int) ∧ Below wo.heap.size wo wr ∧ ((nv = .int .i64 (-1) ∧ ∀ (t : Nat) (z : Nat × Nat), t < k → L[t]? = some z → pX own Bf i z = false) ∨ nv = .int .i64 (k' : Int)))
      case atStart => exact ⟨0, rfl, Nat.zero_le _, rfl, gr_drew (Below.refl _ _), .inl ⟨rfl, fun t z ht _ => absurd ht (Nat.not_lt_zero t)⟩⟩
      case round =>
        obtain ⟨k, hq, hk, rfl, hbz, hcs⟩ := hrel
        have hbw := gr_call B.out.1 hbz
        have kG := H.out.2.1.call hbw
        have g1 := kG.cell' (i := 1) rfl
        have lg := kG.lt
        rcases hcs with ⟨rfl, hno⟩ | rfl
        · by_cases hkl : k < nL
          · have hk' : (k : Int) < (nL : Int) := by omega
            obtain ⟨⟨a, b⟩, hxk⟩ : ∃ z, L[k]? = some z := ⟨_, List.getElem?_eq_getElem (by rw [← H.out.2.2.2.2.2.2.2.2.2.1]; exact hkl)⟩
            obtain ⟨han, hbn⟩ := H.out.2.2.2.2.2.2.2.2.1 k a b hxk
            obtain ⟨ab, ao, rfl, hab, ca, cb⟩ := cells_edg (H.out.2.2.2.2.1.below hbw) (k := k) (p := conE (a, b)) (by rw [List.getElem?_map, hxk]; rfl)
            replace ca : wr.cell? ⟨ab, ao + k * 2, none⟩ = some (.int .i64 (a : Int)) := ca
            replace cb : wr.cell? ⟨ab, ao + k * 2 + 1, none⟩ = some (.int .i64 (b : Int)) := cb
            have kO := B.out.2.2.2.2.2.2.2.2.2.2.2.1.call hbz
            have kB := B.out.2.2.2.2.2.2.2.2.2.2.2.2.call hbz
            have cO := kO.cell' (vecC_at (fun k => .int .i64 ((own k : Nat) : Int)) hi)
            have cB := kB.cell' (vecC_at (fun k => .int .i64 ((Bf k : Nat) : Int)) hi)
            have cB2 := kB.cell' (vecC_at (fun k => .int .i64 ((Bf k : Nat) : Int)) hbn)
            have lO := kO.lt
            have lB := kB.lt
            rw [← B.out.2.2.2.2.2.2.2.2.1] at cO
            rw [← B.out.2.2.2.2.2.2.2.2.2.1] at cB
            have hbz2 := H.out.2.2.2.2.2.2.2.2.2.2.1 b
            obtain ⟨z, hz⟩ : ∃ z, z = Bf b := ⟨_, rfl⟩
            rw [← hz] at cB2 hbz2
            have hb' : (b : Int) < (np : Int) := by omega
            have wz : IntKind.i64.wrap ((x : Int) + (z : Int)) = (x : Int) + (z : Int) := IntWalk.i64_in _ (by omega)
            by_cases hai : a = i
            · subst hai
              by_cases hs : x + z = y
              · have hsI : (x : Int) + (z : Int) = (y : Int) := by omega
                have hkb : b = k' := by
                  have h9 := next_hit (own := own) (B := Bf) (i := a) hno hxk rfl (show own a + Bf b = Bf a by rw [← B.out.2.2.2.2.2.2.2.2.1, ← B.out.2.2.2.2.2.2.2.2.2.1, ← hz]; exact hs)
                  rw [B.out.2.2.2.2.2.2.1] at h9
                  simpa using h9.symm
                subst hkb
                have C := Lib.hid (And.intro hq (And.intro hbz hno))
                clear hq hbz hno hbw kG kO kB hxk hz hs
                go_wp2_with (fail)
                go_quiet (fail)
                go_wp2_with (fail)
                go_roundg (nL - (k + 1))
                case measure => have := C.out.1; omega
                case rel => exact ⟨k + 1, rfl, hkl, by simp, below_drewN C.out.2.1 _, .inr rfl⟩
              · have hsI : ¬ ((x : Int) + (z : Int) = (y : Int)) := by omega
                have hs2 : decide ((x : Int) + (z : Int) = (y : Int)) = false := decide_eq_false hsI
                have hno2 := pX_more hno hxk (pX_miss (.inr (show own a + Bf b ≠ Bf a by rw [← B.out.2.2.2.2.2.2.2.2.1, ← B.out.2.2.2.2.2.2.2.2.2.1, ← hz]; exact hs)))
                have C := Lib.hid (And.intro hq (And.intro hbz hno2))
                clear hq hbz hno hno2 hbw kG kO kB hxk hz hs
                go_wp2_with (fail)
                go_quiet (fail)
                go_wp2_with (fail)
                go_roundg (nL - (k + 1))
                case measure => have := C.out.1; omega
                case rel => exact ⟨k + 1, rfl, hkl, by simp, below_drewN C.out.2.1 _, .inl ⟨rfl, C.out.2.2⟩⟩
            · have hae : ¬ ((a : Int) = (i : Int)) := by omega
              have hae2 : decide ((a : Int) = (i : Int)) = false := decide_eq_false hae
              have hno2 := pX_more hno hxk (pX_miss (.inl hai))
              have C := Lib.hid (And.intro hq (And.intro hbz hno2))
              clear hq hbz hno hno2 hbw kG kO kB hxk hz hai
              go_wp2_with (fail)
              go_quiet (fail)
              go_wp2_with (fail)
              go_roundg (nL - (k + 1))
              case measure => have := C.out.1; omega
              case rel => exact ⟨k + 1, rfl, hkl, by simp, below_drewN C.out.2.1 _, .inl ⟨rfl, C.out.2.2⟩⟩
          · exfalso
            have h9 := next_none (own := own) (B := Bf) (i := i) (L := L) (fun t z ht hz => hno t z (by have := H.out.2.2.2.2.2.2.2.2.2.1; omega) hz)
            rw [B.out.2.2.2.2.2.2.1] at h9
            cases h9
        · by_cases hkl : k < nL
          · have hk' : (k : Int) < (nL : Int) := by omega
            have hown2 := own_below B.out.2.1 hbz (Nat.le_refl _)
            have hck := (Blk.new wr 3 #[.int .i64 (k' : Int)]).cell' (i := 0) rfl
            have hown3 := own_below hown2 (gr_alloc (Below.refl wr.heap.size wr) (.cells #[.int .i64 (k' : Int)] 3)) (Nat.le_refl _)
            have C := Lib.hid (And.intro hown3 (And.intro hck (gr_alloc hbw (.cells #[.int .i64 (k' : Int)] 3))))
            have hsz := hbw.size
            clear hown2 hown3 hck hbz hbw hq kG
            rw [← B.out.2.2.2.2.2.2.2.1] at C
            have hk0 : ¬ ((k' : Int) < 0) := by omega
            go_wp2_with (at_builtin; refine app_one rfl _ _ (t := 25) rfl X.heap.size Try.underlying25 infoInt rfl (by decide) _ _ _ rfl C.out.1 wr.heap.size (.int .i64 (k' : Int)) rfl C.out.2.1 rfl (by omega) (by simp; omega) ?_)
            intro vb Z2 hvb hg2 _
            have hvb2 : OwnN Z2 X.heap.size vb ((pre ++ [i]) ++ [k']) := by
              unfold OwnN
              rw [natC_snoc, List.length_append]
              rw [B.out.2.2.2.2.2.2.2.1] at hvb
              exact hvb
            have hZ := C.out.2.2.grown hg2 (by simp; omega) (fun q hq => (C.out.1.lt q hq).1)
            have D := Lib.hid (And.intro hvb2 hZ)
            clear hvb hvb2 hg2 hZ
            go_wp2_with (fail)
            go_roundg (np - k')
            case measure => have := B.out.2.2.2.1; omega
            case rel => exact ⟨k', pre ++ [i], rfl, hkn, rfl, D.out.2, D.out.1, by rw [B.out.2.2.1, B.out.2.2.2.2.1, List.append_assoc]; rfl, by have := B.out.2.2.2.2.2.2.2.2.2.2.1; rw [List.length_append, List.length_singleton]; omega⟩
          · have hk' : ¬ ((k : Int) < (nL : Int)) := by omega
            have hown2 := own_below B.out.2.1 hbz (Nat.le_refl _)
            have hck := (Blk.new wr 3 #[.int .i64 (k' : Int)]).cell' (i := 0) rfl
            have hown3 := own_below hown2 (gr_alloc (Below.refl wr.heap.size wr) (.cells #[.int .i64 (k' : Int)] 3)) (Nat.le_refl _)
            have C := Lib.hid (And.intro hown3 (And.intro hck (gr_alloc hbw (.cells #[.int .i64 (k' : Int)] 3))))
            have hsz := hbw.size
            clear hown2 hown3 hck hbz hbw hq kG
            rw [← B.out.2.2.2.2.2.2.2.1] at C
            have hk0 : ¬ ((k' : Int) < 0) := by omega
            go_wp2_with (at_builtin; refine app_one rfl _ _ (t := 25) rfl X.heap.size Try.underlying25 infoInt rfl (by decide) _ _ _ rfl C.out.1 wr.heap.size (.int .i64 (k' : Int)) rfl C.out.2.1 rfl (by omega) (by simp; omega) ?_)
            intro vb Z2 hvb hg2 _
            have hvb2 : OwnN Z2 X.heap.size vb ((pre ++ [i]) ++ [k']) := by
              unfold OwnN
              rw [natC_snoc, List.length_append]
              rw [B.out.2.2.2.2.2.2.2.1] at hvb
              exact hvb
            have hZ := C.out.2.2.grown hg2 (by simp; omega) (fun q hq => (C.out.1.lt q hq).1)
            have D := Lib.hid (And.intro hvb2 hZ)
            clear hvb hvb2 hg2 hZ
            go_wp2_with (fail)
            go_roundg (np - k')
            case measure => have := B.out.2.2.2.1; omega
            case rel => exact ⟨k', pre ++ [i], rfl, hkn, rfl, D.out.2, D.out.1, by rw [B.out.2.2.1, B.out.2.2.2.2.1, List.append_assoc]; rfl, by have := B.out.2.2.2.2.2.2.2.2.2.2.1; rw [List.length_append, List.length_singleton]; omega⟩
end Go.Proofs.Ytjgkiiohbceocaa
