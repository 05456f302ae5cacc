/-
  The law's graph made of numbers, walked; no condition.
-/
import Derived.Test.YtjgkiiohbceocaaSeA
import Derived.Test.YtjgkiiohbceocaaMod
namespace Go.Proofs.Ytjgkiiohbceocaa
open Go.RowKit
set_option linter.unusedVariables false
set_option linter.unusedSimpArgs false

/-- The cells of a small table. -/
def twC (T : Nat → Nat → Bool) : Array Value := vecC 144 fun t => .bool (T (t / 12) (t % 12))
theorem twC_at (T : Nat → Nat → Bool) {i j : Nat} (hi : i < 12) (hj : j < 12) : (twC T)[i * 12 + j]? = some (.bool (T i j)) := by
  unfold twC
  rw [vecC_at _ (show i * 12 + j < 144 by omega), show (i * 12 + j) / 12 = i by omega, show (i * 12 + j) % 12 = j by omega]
theorem twC_set {T : Nat → Nat → Bool} {i j : Nat} (hi : i < 12) (hj : j < 12) : (twC T).setIfInBounds (i * 12 + j) (.bool true) = twC (insE T i j) := by
  unfold twC
  refine vecC_set (by omega) ?_ (fun t ht hne => ?_)
  · rw [show (i * 12 + j) / 12 = i by omega, show (i * 12 + j) % 12 = j by omega]
    unfold insE
    rw [decide_eq_true (show i = i from rfl), decide_eq_true (show j = j from rfl)]; simp
  · unfold insE
    have : (decide (t / 12 = i) && decide (t % 12 = j)) = false := by
      by_cases h1 : t / 12 = i
      · by_cases h2 : t % 12 = j
        · omega
        · rw [decide_eq_false h2, Bool.and_false]
      · rw [decide_eq_false h1, Bool.false_and]
    rw [this, Bool.or_false]
theorem zero_tw : Try.zeroCells89 = twC noR := by rfl

set_option maxRecDepth 100000 in
set_option maxHeartbeats 8000000 in
theorem made_law (n : Int) (nl : List Int) (hn : -9223372036854775808 ≤ n ∧ n ≤ 9223372036854775807) (hb : ∀ x ∈ nl, -9223372036854775808 ≤ x ∧ x ≤ 9223372036854775807) (A : Option Addr) (c : Nat) (w : World) (hA : Cells w A 1 nl.length (intsAt nl)) :
    Calls Try.prog 38 #[.int .i64 n, .slice A nl.length c] w fun e w' => ∃ (m : Nat) (l : List Edg) (B : Option Addr) (d : Nat), e = .returned (.agg #[.int .i64 (m : Int), .slice B l.length d]) ∧ m ≤ 12 ∧ l.length ≤ 144 ∧ (chkG (m : Int) l).1 = 0 ∧ Cells w' B 2 l.length (edAt l) ∧ Below w.heap.size w w' := by
  have b0 := gr_alloc (Below.refl w.heap.size w) (.cells #[.int .i64 0, .slice none 0 0] 24)
  have k0 := Blk.new w 24 #[.int .i64 0, .slice none 0 0]
  have hA0 := hA.below b0
  obtain ⟨N, hN⟩ : ∃ N : Nat, n % 13 = (N : Int) := ⟨(n % 13).toNat, by omega⟩
  have hN12 : N ≤ 12 := by omega
  have hmd := fun W => kmod n 13 W hn ⟨by decide, by decide⟩
  rw [hN] at hmd
  obtain ⟨ln, hln⟩ : ∃ ln, ln = nl.length := ⟨_, rfl⟩
  have hel : ∀ (W : World), Cells W A 1 nl.length (intsAt nl) → ∀ k, k < ln → ∃ (x : Int) (g o : Nat), A = some ⟨g, o, none⟩ ∧ g < W.heap.size ∧ W.cell? ⟨g, o + k, none⟩ = some (.int .i64 x) ∧ -9223372036854775808 ≤ x ∧ x ≤ 9223372036854775807 := by
    intro W hW k hk
    obtain ⟨g, o, h1, h2, h3⟩ := hW (by omega)
    have hx : nl[k]? = some nl[k] := List.getElem?_eq_getElem (by omega)
    refine ⟨nl[k], g, o, h1, h2, ?_, hb _ (List.getElem_mem _)⟩
    have := h3 k 0 (by omega) (by decide)
    rw [Nat.mul_one, Nat.add_zero] at this
    rw [this]
    unfold intsAt
    rw [List.getD_eq_getElem?_getD, hx]; rfl
  have H := Lib.hid (And.intro b0 (And.intro k0 (And.intro hA0 (And.intro hmd hel))))
  rw [← hln]
  clear b0 k0 hA hA0 hmd hel hb hn hN hln
  go_enter Try.func38, Try.ntmps38
  go_wp2_with (fail)
  refine (H.out.2.2.2.1 _).mono ?_
  rintro e W1 ⟨rfl, h1⟩
  have b2 := gr_alloc (gr_alloc (Below.refl W1.heap.size W1) (.cells #[.int .i64 (N : Int), .slice none 0 0] 24)) (.cells (twC noR) 89)
  have k1 : Blk ((W1.alloc (.cells #[.int .i64 (N : Int), .slice none 0 0] 24)).alloc (.cells (twC noR) 89)) W1.heap.size 24 #[.int .i64 (N : Int), .slice none 0 0] := (Blk.new W1 _ _).alloc _
  have k2 : Blk ((W1.alloc (.cells #[.int .i64 (N : Int), .slice none 0 0] 24)).alloc (.cells (twC noR) 89)) (W1.heap.size + 1) 89 (twC noR) := blk_at (by simp)
  have D := Lib.hid (And.intro (gr_call H.out.1 h1) (And.intro (H.out.2.1.call h1) (And.intro (H.out.2.2.1.below h1) (And.intro b2 (And.intro k1 k2)))))
  clear h1 b2 k1 k2
  go_wp2_with (fail)
  rw [zero_tw]
  go_loopg [7] 40 (fun q iv wr => ∃ (i : Nat) (T : Nat → Nat → Bool), q = 40 - i ∧ i ≤ 40 ∧ iv = .int .i64 (i : Int) ∧ Below W1.heap.size W1 wr ∧ Blk wr W1.heap.size 24 #[.int .i64 (N : Int), .slice none 0 0] ∧ Blk wr (W1.heap.size + 1) 89 (twC T))
  case atStart => exact ⟨0, noR, rfl, Nat.zero_le _, rfl, D.out.2.2.2.1, D.out.2.2.2.2.1, D.out.2.2.2.2.2⟩
  case round =>
    obtain ⟨i, T, hq, hi, rfl, hbel, hg, ht⟩ := hrel
    have g0 := hg.cell' (i := 0) rfl
    have gl := hg.lt
    by_cases hgo : i < ln ∧ i < 40 ∧ 0 < N
    · obtain ⟨hil, hi40, hN0⟩ := hgo
      have hil' : (i : Int) < (ln : Int) := by omega
      have hi40' : (i : Int) < 40 := by omega
      have hN0' : (N : Int) > 0 := by omega
      obtain ⟨x, gA, oA, rfl, hgl, hc, hx1, hx2⟩ := H.out.2.2.2.2 _ (D.out.2.2.1.below hbel) i hil
      obtain ⟨K, hK⟩ : ∃ K : Nat, x % 1048576 = (K : Int) := ⟨(x % 1048576).toNat, by omega⟩
      have hK20 : K < 1048576 := by omega
      have hmd := fun W => kmod x 1048576 W ⟨hx1, hx2⟩ ⟨by decide, by decide⟩
      rw [hK] at hmd
      have B := Lib.hid (And.intro hq (And.intro hbel (And.intro hg (And.intro ht hmd))))
      clear hq hbel hg ht hmd hK hx1 hx2
      go_wp2_with (fail)
      refine (B.out.2.2.2.2 _).mono ?_
      rintro e W2 ⟨rfl, h2⟩
      have hbw := gr_call B.out.2.1 h2
      have hg2 := B.out.2.2.1.call h2
      have ht2 := B.out.2.2.2.1.call h2
      obtain ⟨r1, hr1⟩ : ∃ r : Nat, r = K % N := ⟨_, rfl⟩
      obtain ⟨r2, hr2⟩ : ∃ r : Nat, r = K / 16 % N := ⟨_, rfl⟩
      have hr1N : r1 < N := by rw [hr1]; exact Nat.mod_lt _ hN0
      have hr2N : r2 < N := by rw [hr2]; exact Nat.mod_lt _ hN0
      have hr12 : r1 < 12 := by omega
      have hr22 : r2 < 12 := by omega
      have hr1I : (r1 : Int) < 12 := by omega
      have hr2I : (r2 : Int) < 12 := by omega
      have e1 : (K : Int).tmod (N : Int) = (r1 : Int) := by rw [hr1]; exact Int.ofNat_tmod K N
      have e2 : (K : Int).tdiv 16 = ((K / 16 : Nat) : Int) := Int.ofNat_tdiv K 16
      obtain ⟨K2, hK2⟩ : ∃ x, x = K / 16 := ⟨_, rfl⟩
      rw [← hK2] at e2
      have e3 : (K2 : Int).tmod (N : Int) = (r2 : Int) := by rw [hr2, ← hK2]; exact Int.ofNat_tmod K2 N
      have hK2b : K2 < 1048576 := by omega
      have hNz : ¬ ((N : Int) = 0) := by omega
      have c0 := hg2.cell' (i := 0) rfl
      have lg := hg2.lt
      have cx := ht2.cell' (twC_at T hr12 hr22)
      have fx := ht2.frozen (r1 * 12 + r2)
      have lx := ht2.lt
      have C := Lib.hid (And.intro hbw (And.intro hg2 ht2))
      clear h2 hbw hg2 ht2 hr1 hr2 hr1N hr2N hK2 g0 gl hgl hc
      go_wp2_with (fail)
      go_region
      go_wp2_with (fail)
      go_roundg (40 - (i + 1))
      case measure => have := B.out.1; omega
      case rel =>
        have hbb := gr_set C.out.1 (p := ⟨W1.heap.size + 1, r1 * 12 + r2, none⟩) (by show W1.heap.size ≤ W1.heap.size + 1; omega) (.bool true)
        refine ⟨i + 1, insE T r1 r2, rfl, hi40, by simp, ⟨hbb.os, hbb.tape, hbb.output, hbb.size, hbb.block⟩, (C.out.2.1.far (p := ⟨W1.heap.size + 1, r1 * 12 + r2, none⟩) (by show W1.heap.size ≠ W1.heap.size + 1; omega) _).drew, ?_⟩
        rw [← twC_set hr12 hr22]
        exact (C.out.2.2.set_ _ _).drew
    · rename World => W3
      have hcases : (¬ (i : Int) < (ln : Int)) ∨ ((i : Int) < (ln : Int) ∧ ¬ (i : Int) < 40) ∨ ((i : Int) < (ln : Int) ∧ (i : Int) < 40 ∧ ¬ (0 : Int) < (N : Int)) := by omega
      have E := Lib.hid (And.intro hbel (And.intro hg ht))
      clear hbel hg ht hq hgo
      rcases hcases with h1 | ⟨h1, h2⟩ | ⟨h1, h2, h3⟩
      · go_wp2_with (fail)
        clear g0 gl
        go_loopg [9] N (fun q av wr => ∃ (a : Nat) (u : Value), q = N - a ∧ a ≤ N ∧ av = .int .i64 (a : Int) ∧ Below W1.heap.size W1 wr ∧ Blk wr W1.heap.size 24 #[.int .i64 (N : Int), u] ∧ Blk wr (W1.heap.size + 1) 89 (twC T) ∧ OwnE wr W1.heap.size u (allG T N a))
        case atStart => exact ⟨0, .slice none 0 0, rfl, Nat.zero_le _, rfl, E.out.1, E.out.2.1, E.out.2.2, ownE_nil _ _⟩
        case round =>
          obtain ⟨a, u, hq, ha, rfl, hbel, hg, ht, hown⟩ := hrel
          have g0 := hg.cell' (i := 0) rfl
          have gl := hg.lt
          by_cases haN : a < N
          · have ha' : (a : Int) < (N : Int) := by omega
            have ha12 : a < 12 := by omega
            have ha12' : (a : Int) < 12 := by omega
            have B := Lib.hid (And.intro hbel (And.intro hg (And.intro ht (And.intro hown hq))))
            clear hbel hg ht hown hq
            go_wp2_with (fail)
            clear g0 gl
            go_loopg [10] N (fun q bv wr => ∃ (b : Nat) (u : Value), q = N - b ∧ b ≤ N ∧ bv = .int .i64 (b : Int) ∧ Below W1.heap.size W1 wr ∧ Blk wr W1.heap.size 24 #[.int .i64 (N : Int), u] ∧ Blk wr (W1.heap.size + 1) 89 (twC T) ∧ OwnE wr W1.heap.size u (allG T N a ++ rowG T a b))
            case atStart => exact ⟨0, u, rfl, Nat.zero_le _, rfl, B.out.1, B.out.2.1, B.out.2.2.1, by rw [show rowG T a 0 = [] from rfl, List.append_nil]; exact B.out.2.2.2.1⟩
            case round =>
              obtain ⟨b, u, hq, hb, rfl, hbel, hg, ht, hown⟩ := hrel
              have g0 := hg.cell' (i := 0) rfl
              have gl := hg.lt
              by_cases hbN : b < N
              · have hb' : (b : Int) < (N : Int) := by omega
                have hb12 : b < 12 := by omega
                have hb12' : (b : Int) < 12 := by omega
                have ct := ht.cell' (twC_at T ha12 hb12)
                have lt := ht.lt
                have hst : rowG T a (b + 1) = if T a b = true then rowG T a b ++ [(a, b)] else rowG T a b := rfl
                cases hT : T a b with
                | false =>
                  rw [hT] at ct hst
                  rw [if_neg (by decide)] at hst
                  have C := Lib.hid (And.intro hbel (And.intro hg (And.intro ht (And.intro hown (And.intro hq hst)))))
                  clear hbel hg ht hown hq hst hT
                  go_wp2_with (fail)
                  go_roundg (N - (b + 1))
                  case measure => have := C.out.2.2.2.2.1; omega
                  case rel => exact ⟨b + 1, u, rfl, hbN, by simp, C.out.1, C.out.2.1, C.out.2.2.1, by rw [C.out.2.2.2.2.2]; exact C.out.2.2.2.1⟩
                | true =>
                  rw [hT] at ct hst
                  rw [if_pos rfl] at hst
                  have hcl : (allG T N a ++ rowG T a b).length ≤ 1000000 := by
                    have h1 := allG_len T N a
                    have h2 := rowG_len T a b
                    have h3 : a * N ≤ 12 * 12 := Nat.mul_le_mul (by omega) hN12
                    rw [List.length_append]; omega
                  have g1 := hg.cell' (i := 1) rfl
                  have bz := hbel.size
                  have hown2 := own_below hown (gr_alloc (Below.refl _ _) (.cells #[.int .i64 (a : Int), .int .i64 (b : Int)] 57)) (Nat.le_refl _)
                  have C := Lib.hid (And.intro hbel (And.intro hg (And.intro ht (And.intro hown2 (And.intro hq (And.intro hst hcl))))))
                  clear hbel hg ht hown hown2 hq hst hT hcl
                  go_wp2_with (at_builtin; refine app_edg rfl _ _ rfl W1.heap.size _ _ rfl C.out.2.2.2.1 wr.heap.size a b rfl (Blk.new _ _ _) C.out.2.2.2.2.2.2 (by simp; omega) ?_)
                  intro v' w2 hown' hgrow
                  obtain ⟨xa, xc, hv'⟩ := own_slice hown'
                  obtain ⟨xl, hxl⟩ : ∃ xl, v' = .slice xa xl xc := ⟨_, hv'⟩
                  clear hv'
                  subst hxl
                  have hka := C.out.2.1.alloc (.cells #[.int .i64 (a : Int), .int .i64 (b : Int)] 57)
                  have hkb := hka.grown hgrow (own_blk_ne C.out.2.2.2.1 hka (by decide))
                  have hta := C.out.2.2.1.alloc (.cells #[.int .i64 (a : Int), .int .i64 (b : Int)] 57)
                  have htb := hta.grown hgrow (own_blk_ne C.out.2.2.2.1 hta (by decide))
                  have cO2 := hkb.cell' (i := 1) rfl
                  have fO2 := hkb.frozen 1
                  have lO2 := hkb.lt
                  have L := Lib.hid (And.intro hown' (And.intro ((gr_alloc C.out.1 (.cells #[.int .i64 (a : Int), .int .i64 (b : Int)] 57)).grown hgrow (by simp; omega) (fun q hq => (C.out.2.2.2.1.lt q hq).1)) (And.intro hkb htb)))
                  clear hown' hgrow hka hkb hta htb g0 gl g1
                  go_wp2_with (fail)
                  go_roundg (N - (b + 1))
                  case measure => have := C.out.2.2.2.2.1; omega
                  case rel =>
                    refine ⟨b + 1, _, rfl, hbN, by simp, gr_set L.out.2.1 (Nat.le_refl _) _, L.out.2.2.1.set_ 1 _, L.out.2.2.2.far (p := ⟨W1.heap.size, 1, none⟩) (by show W1.heap.size + 1 ≠ W1.heap.size; omega) _, ?_⟩
                    have h9 := own_setCell (g := W1.heap.size) (i := 1) L.out.1 L.out.2.2.1 (by decide) (.slice xa xl xc)
                    rw [C.out.2.2.2.2.2.1]; first | exact h9 | (rw [← List.append_assoc]; exact h9)
              · have eb : b = N := by omega
                subst b
                have C := Lib.hid (And.intro hbel (And.intro hg (And.intro ht hown)))
                clear hbel hg ht hown hq hbN
                go_wp2_with (fail)
                go_roundg (N - (a + 1))
                case measure => have := B.out.2.2.2.2; omega
                case rel => exact ⟨a + 1, u, rfl, haN, by simp, C.out.1, C.out.2.1, C.out.2.2.1, C.out.2.2.2⟩
          · have ea : a = N := by omega
            subst a
            have g1 := hg.cell' (i := 1) rfl
            have hbw := gr_call D.out.1 hbel
            have hkr := D.out.2.1.below hbel D.out.2.1.lt
            have r0 := hkr.cell' (i := 0) rfl
            have r1 := hkr.cell' (i := 1) rfl
            have f0 := hkr.frozen 0
            have f1 := hkr.frozen 1
            have rl := hkr.lt
            obtain ⟨ea, ec, rfl⟩ := own_slice hown
            have hkz := (hkr.set_ 0 (.int .i64 (N : Int))).set_ 1 (.slice ea (allG T N N).length ec)
            have z0 := hkz.cell' (i := 0) rfl
            have z1 := hkz.cell' (i := 1) rfl
            have zl := hkz.lt
            have hck := chkG_asc (m := N) (by omega) (L := allG T N N) (fun x hx => allG_mem hx) (allG_asc T N N)
            have hfin := OwnE.at_ (own_setCell (own_setCell hown hkr (by decide) (.int .i64 (N : Int)) (i := 0)) (hkr.set_ 0 (.int .i64 (N : Int))) (by decide) (.slice ea (allG T N N).length ec) (i := 1))
            have hlen : ((allG T N N).map conE).length ≤ 144 := by
              rw [List.length_map]
              exact Nat.le_trans (allG_len T N N) (Nat.mul_le_mul hN12 hN12)
            have hbz := gr_set (gr_set hbw (p := ⟨w.heap.size, 0, none⟩) (Nat.le_refl _) (.int .i64 (N : Int))) (p := ⟨w.heap.size, 1, none⟩) (Nat.le_refl _) (.slice ea (allG T N N).length ec)
            have F := Lib.hid (And.intro hbz (And.intro hfin (And.intro hck hlen)))
            clear hbel hg ht hown hq hbw hkr hkz haN hck hfin hlen hbz
            go_wp2_with (fail)
            refine bodyPost_ret (v := .agg #[.int .i64 (N : Int), .slice ea (allG T N N).length ec]) (by simp [results, Try.results38, go_sem, z0, z1, zl]) rfl ?_
            obtain ⟨B', d', hv, hcl⟩ := F.out.2.1
            exact ⟨N, (allG T N N).map conE, B', d', by rw [hv], hN12, F.out.2.2.2, F.out.2.2.1, hcl, F.out.1⟩
      · go_wp2_with (fail)
        clear g0 gl
        go_loopg [9] N (fun q av wr => ∃ (a : Nat) (u : Value), q = N - a ∧ a ≤ N ∧ av = .int .i64 (a : Int) ∧ Below W1.heap.size W1 wr ∧ Blk wr W1.heap.size 24 #[.int .i64 (N : Int), u] ∧ Blk wr (W1.heap.size + 1) 89 (twC T) ∧ OwnE wr W1.heap.size u (allG T N a))
        case atStart => exact ⟨0, .slice none 0 0, rfl, Nat.zero_le _, rfl, E.out.1, E.out.2.1, E.out.2.2, ownE_nil _ _⟩
        case round =>
          obtain ⟨a, u, hq, ha, rfl, hbel, hg, ht, hown⟩ := hrel
          have g0 := hg.cell' (i := 0) rfl
          have gl := hg.lt
          by_cases haN : a < N
          · have ha' : (a : Int) < (N : Int) := by omega
            have ha12 : a < 12 := by omega
            have ha12' : (a : Int) < 12 := by omega
            have B := Lib.hid (And.intro hbel (And.intro hg (And.intro ht (And.intro hown hq))))
            clear hbel hg ht hown hq
            go_wp2_with (fail)
            clear g0 gl
            go_loopg [10] N (fun q bv wr => ∃ (b : Nat) (u : Value), q = N - b ∧ b ≤ N ∧ bv = .int .i64 (b : Int) ∧ Below W1.heap.size W1 wr ∧ Blk wr W1.heap.size 24 #[.int .i64 (N : Int), u] ∧ Blk wr (W1.heap.size + 1) 89 (twC T) ∧ OwnE wr W1.heap.size u (allG T N a ++ rowG T a b))
            case atStart => exact ⟨0, u, rfl, Nat.zero_le _, rfl, B.out.1, B.out.2.1, B.out.2.2.1, by rw [show rowG T a 0 = [] from rfl, List.append_nil]; exact B.out.2.2.2.1⟩
            case round =>
              obtain ⟨b, u, hq, hb, rfl, hbel, hg, ht, hown⟩ := hrel
              have g0 := hg.cell' (i := 0) rfl
              have gl := hg.lt
              by_cases hbN : b < N
              · have hb' : (b : Int) < (N : Int) := by omega
                have hb12 : b < 12 := by omega
                have hb12' : (b : Int) < 12 := by omega
                have ct := ht.cell' (twC_at T ha12 hb12)
                have lt := ht.lt
                have hst : rowG T a (b + 1) = if T a b = true then rowG T a b ++ [(a, b)] else rowG T a b := rfl
                cases hT : T a b with
                | false =>
                  rw [hT] at ct hst
                  rw [if_neg (by decide)] at hst
                  have C := Lib.hid (And.intro hbel (And.intro hg (And.intro ht (And.intro hown (And.intro hq hst)))))
                  clear hbel hg ht hown hq hst hT
                  go_wp2_with (fail)
                  go_roundg (N - (b + 1))
                  case measure => have := C.out.2.2.2.2.1; omega
                  case rel => exact ⟨b + 1, u, rfl, hbN, by simp, C.out.1, C.out.2.1, C.out.2.2.1, by rw [C.out.2.2.2.2.2]; exact C.out.2.2.2.1⟩
                | true =>
                  rw [hT] at ct hst
                  rw [if_pos rfl] at hst
                  have hcl : (allG T N a ++ rowG T a b).length ≤ 1000000 := by
                    have h1 := allG_len T N a
                    have h2 := rowG_len T a b
                    have h3 : a * N ≤ 12 * 12 := Nat.mul_le_mul (by omega) hN12
                    rw [List.length_append]; omega
                  have g1 := hg.cell' (i := 1) rfl
                  have bz := hbel.size
                  have hown2 := own_below hown (gr_alloc (Below.refl _ _) (.cells #[.int .i64 (a : Int), .int .i64 (b : Int)] 57)) (Nat.le_refl _)
                  have C := Lib.hid (And.intro hbel (And.intro hg (And.intro ht (And.intro hown2 (And.intro hq (And.intro hst hcl))))))
                  clear hbel hg ht hown hown2 hq hst hT hcl
                  go_wp2_with (at_builtin; refine app_edg rfl _ _ rfl W1.heap.size _ _ rfl C.out.2.2.2.1 wr.heap.size a b rfl (Blk.new _ _ _) C.out.2.2.2.2.2.2 (by simp; omega) ?_)
                  intro v' w2 hown' hgrow
                  obtain ⟨xa, xc, hv'⟩ := own_slice hown'
                  obtain ⟨xl, hxl⟩ : ∃ xl, v' = .slice xa xl xc := ⟨_, hv'⟩
                  clear hv'
                  subst hxl
                  have hka := C.out.2.1.alloc (.cells #[.int .i64 (a : Int), .int .i64 (b : Int)] 57)
                  have hkb := hka.grown hgrow (own_blk_ne C.out.2.2.2.1 hka (by decide))
                  have hta := C.out.2.2.1.alloc (.cells #[.int .i64 (a : Int), .int .i64 (b : Int)] 57)
                  have htb := hta.grown hgrow (own_blk_ne C.out.2.2.2.1 hta (by decide))
                  have cO2 := hkb.cell' (i := 1) rfl
                  have fO2 := hkb.frozen 1
                  have lO2 := hkb.lt
                  have L := Lib.hid (And.intro hown' (And.intro ((gr_alloc C.out.1 (.cells #[.int .i64 (a : Int), .int .i64 (b : Int)] 57)).grown hgrow (by simp; omega) (fun q hq => (C.out.2.2.2.1.lt q hq).1)) (And.intro hkb htb)))
                  clear hown' hgrow hka hkb hta htb g0 gl g1
                  go_wp2_with (fail)
                  go_roundg (N - (b + 1))
                  case measure => have := C.out.2.2.2.2.1; omega
                  case rel =>
                    refine ⟨b + 1, _, rfl, hbN, by simp, gr_set L.out.2.1 (Nat.le_refl _) _, L.out.2.2.1.set_ 1 _, L.out.2.2.2.far (p := ⟨W1.heap.size, 1, none⟩) (by show W1.heap.size + 1 ≠ W1.heap.size; omega) _, ?_⟩
                    have h9 := own_setCell (g := W1.heap.size) (i := 1) L.out.1 L.out.2.2.1 (by decide) (.slice xa xl xc)
                    rw [C.out.2.2.2.2.2.1]; first | exact h9 | (rw [← List.append_assoc]; exact h9)
              · have eb : b = N := by omega
                subst b
                have C := Lib.hid (And.intro hbel (And.intro hg (And.intro ht hown)))
                clear hbel hg ht hown hq hbN
                go_wp2_with (fail)
                go_roundg (N - (a + 1))
                case measure => have := B.out.2.2.2.2; omega
                case rel => exact ⟨a + 1, u, rfl, haN, by simp, C.out.1, C.out.2.1, C.out.2.2.1, C.out.2.2.2⟩
          · have ea : a = N := by omega
            subst a
            have g1 := hg.cell' (i := 1) rfl
            have hbw := gr_call D.out.1 hbel
            have hkr := D.out.2.1.below hbel D.out.2.1.lt
            have r0 := hkr.cell' (i := 0) rfl
            have r1 := hkr.cell' (i := 1) rfl
            have f0 := hkr.frozen 0
            have f1 := hkr.frozen 1
            have rl := hkr.lt
            obtain ⟨ea, ec, rfl⟩ := own_slice hown
            have hkz := (hkr.set_ 0 (.int .i64 (N : Int))).set_ 1 (.slice ea (allG T N N).length ec)
            have z0 := hkz.cell' (i := 0) rfl
            have z1 := hkz.cell' (i := 1) rfl
            have zl := hkz.lt
            have hck := chkG_asc (m := N) (by omega) (L := allG T N N) (fun x hx => allG_mem hx) (allG_asc T N N)
            have hfin := OwnE.at_ (own_setCell (own_setCell hown hkr (by decide) (.int .i64 (N : Int)) (i := 0)) (hkr.set_ 0 (.int .i64 (N : Int))) (by decide) (.slice ea (allG T N N).length ec) (i := 1))
            have hlen : ((allG T N N).map conE).length ≤ 144 := by
              rw [List.length_map]
              exact Nat.le_trans (allG_len T N N) (Nat.mul_le_mul hN12 hN12)
            have hbz := gr_set (gr_set hbw (p := ⟨w.heap.size, 0, none⟩) (Nat.le_refl _) (.int .i64 (N : Int))) (p := ⟨w.heap.size, 1, none⟩) (Nat.le_refl _) (.slice ea (allG T N N).length ec)
            have F := Lib.hid (And.intro hbz (And.intro hfin (And.intro hck hlen)))
            clear hbel hg ht hown hq hbw hkr hkz haN hck hfin hlen hbz
            go_wp2_with (fail)
            refine bodyPost_ret (v := .agg #[.int .i64 (N : Int), .slice ea (allG T N N).length ec]) (by simp [results, Try.results38, go_sem, z0, z1, zl]) rfl ?_
            obtain ⟨B', d', hv, hcl⟩ := F.out.2.1
            exact ⟨N, (allG T N N).map conE, B', d', by rw [hv], hN12, F.out.2.2.2, F.out.2.2.1, hcl, F.out.1⟩
      · have hN0 := Lib.hid (show N = 0 by omega)
        go_wp2_with (fail)
        clear g0 gl h3
        go_loopg [9] N (fun q av wr => ∃ (a : Nat) (u : Value), q = N - a ∧ a ≤ N ∧ av = .int .i64 (a : Int) ∧ Below W1.heap.size W1 wr ∧ Blk wr W1.heap.size 24 #[.int .i64 (N : Int), u] ∧ Blk wr (W1.heap.size + 1) 89 (twC T) ∧ OwnE wr W1.heap.size u (allG T N a))
        case atStart => exact ⟨0, .slice none 0 0, rfl, Nat.zero_le _, rfl, E.out.1, E.out.2.1, E.out.2.2, ownE_nil _ _⟩
        case round =>
          obtain ⟨a, u, hq, ha, rfl, hbel, hg, ht, hown⟩ := hrel
          have g0 := hg.cell' (i := 0) rfl
          have gl := hg.lt
          by_cases haN : a < N
          · exfalso
            have := hN0.out
            omega
          · have ea : a = N := by omega
            subst a
            have g1 := hg.cell' (i := 1) rfl
            have hbw := gr_call D.out.1 hbel
            have hkr := D.out.2.1.below hbel D.out.2.1.lt
            have r0 := hkr.cell' (i := 0) rfl
            have r1 := hkr.cell' (i := 1) rfl
            have f0 := hkr.frozen 0
            have f1 := hkr.frozen 1
            have rl := hkr.lt
            obtain ⟨ea, ec, rfl⟩ := own_slice hown
            have hkz := (hkr.set_ 0 (.int .i64 (N : Int))).set_ 1 (.slice ea (allG T N N).length ec)
            have z0 := hkz.cell' (i := 0) rfl
            have z1 := hkz.cell' (i := 1) rfl
            have zl := hkz.lt
            have hck := chkG_asc (m := N) (by omega) (L := allG T N N) (fun x hx => allG_mem hx) (allG_asc T N N)
            have hfin := OwnE.at_ (own_setCell (own_setCell hown hkr (by decide) (.int .i64 (N : Int)) (i := 0)) (hkr.set_ 0 (.int .i64 (N : Int))) (by decide) (.slice ea (allG T N N).length ec) (i := 1))
            have hlen : ((allG T N N).map conE).length ≤ 144 := by
              rw [List.length_map]
              exact Nat.le_trans (allG_len T N N) (Nat.mul_le_mul hN12 hN12)
            have hbz := gr_set (gr_set hbw (p := ⟨w.heap.size, 0, none⟩) (Nat.le_refl _) (.int .i64 (N : Int))) (p := ⟨w.heap.size, 1, none⟩) (Nat.le_refl _) (.slice ea (allG T N N).length ec)
            have F := Lib.hid (And.intro hbz (And.intro hfin (And.intro hck hlen)))
            clear hbel hg ht hown hq hbw hkr hkz haN hck hfin hlen hbz
            go_wp2_with (fail)
            refine bodyPost_ret (v := .agg #[.int .i64 (N : Int), .slice ea (allG T N N).length ec]) (by simp [results, Try.results38, go_sem, z0, z1, zl]) rfl ?_
            obtain ⟨B', d', hv, hcl⟩ := F.out.2.1
            exact ⟨N, (allG T N N).map conE, B', d', by rw [hv], hN12, F.out.2.2.2, F.out.2.2.1, hcl, F.out.1⟩
end Go.Proofs.Ytjgkiiohbceocaa
