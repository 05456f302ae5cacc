/-
  The reference's together, first and parts, walked; conditions: at most 64 nodes.
-/
import Derived.Test.YtjgkiiohbceocaaScV
namespace Go.Proofs.Ytjgkiiohbceocaa
open Go.RowKit
set_option linter.unusedVariables false
set_option linter.unusedSimpArgs false

set_option maxRecDepth 100000 in
set_option maxHeartbeats 2000000 in
theorem together_ref (T : Nat → Nat → Bool) (a b : Nat) (ha : a < 64) (hb : b < 64) (w : World) :
    Calls Try.prog 67 #[.agg (tabC T), .int .i64 (a : Int), .int .i64 (b : Int)] w fun e w' => e = .returned (.bool (tog T a b)) ∧ Below w.heap.size w w' := by
  have kt := Blk.new w 73 (tabC T)
  have cab := kt.cell' (tabC_at T ha hb)
  have cba := kt.cell' (tabC_at T hb ha)
  have lt := kt.lt
  have ha7 : (a : Int) < 64 := by omega
  have hb7 : (b : Int) < 64 := by omega
  have bb := Lib.hid (gr_alloc (Below.refl w.heap.size w) (.cells (tabC T) 73))
  clear kt
  obtain ⟨ct, hct⟩ : ∃ ct, ct = tabC T := ⟨_, rfl⟩
  rw [← hct] at cab cba lt bb ⊢
  have hsz : ct.size = 4096 := by rw [hct, tabC_size]
  clear hct
  unfold tog
  by_cases hab : a = b
  · have hab' : ((a : Int) == (b : Int)) = true := by simp; omega
    rw [decide_eq_true hab, Bool.true_or]
    clear hab
    go_enter Try.func67, Try.ntmps67
    go_wp2_with (fail)
    go_ret
    exact ⟨by simp, bb.out⟩
  · have hab' : ((a : Int) == (b : Int)) = false := by simp; omega
    rw [decide_eq_false hab, Bool.false_or]
    clear hab
    generalize T a b = x at cab ⊢
    generalize T b a = y at cba ⊢
    cases x <;> cases y <;>
      (go_enter Try.func67, Try.ntmps67
       go_wp2_with (fail)
       go_ret
       exact ⟨by simp, bb.out⟩)

/-- A place that is free, as far as k. -/
def okT (T : Nat → Nat → Bool) (D : Nat → Bool) (i : Nat) : Nat → Bool
  | 0 => !D i
  | k + 1 => okT T D i k && (D k || tog T i k || !T k i)
theorem okT_all (n : Nat) (T : Nat → Nat → Bool) (D : Nat → Bool) (i : Nat) : okT T D i n = okF n T D i := by
  have key : ∀ k, okT T D i k = (!D i && (List.range k).all fun k => D k || tog T i k || !T k i) := by
    intro k
    induction k with
    | zero => unfold okT; simp
    | succ k ih =>
      unfold okT
      rw [ih, List.range_succ, List.all_append]
      simp [Bool.and_assoc]
  exact key n
/-- The cells of the marks. -/
def mrkC (D : Nat → Bool) : Array Value := vecC 64 fun k => .bool (D k)
theorem infoMrk : (Try.prog.info? 71).map (·.size) = some 64 := by kernel_rfl
def firstV (n : Nat) (T : Nat → Nat → Bool) (D : Nat → Bool) : Int := match firstR n T D with
  | some r => (r : Int)
  | none => -1
theorem firstV_some {n : Nat} {T : Nat → Nat → Bool} {D : Nat → Bool} {i : Nat} (hi : i < n) (h : okF n T D i = true) (h0 : ∀ j, j < i → okF n T D j = false) : firstV n T D = (i : Int) := by
  unfold firstV firstR
  rw [find_range hi h h0]
theorem firstV_none {n : Nat} {T : Nat → Nat → Bool} {D : Nat → Bool} (h0 : ∀ j, j < n → okF n T D j = false) : firstV n T D = -1 := by
  unfold firstV firstR
  rw [find_range_none h0]

set_option maxRecDepth 100000 in
set_option maxHeartbeats 8000000 in
theorem first_ref (n : Nat) (hn : n ≤ 64) (T : Nat → Nat → Bool) (D : Nat → Bool) (ev : Value) (w : World) :
    Calls Try.prog 66 #[.agg #[.int .i64 (n : Int), ev], .agg (tabC T), .agg (mrkC D)] w fun e w' => e = .returned (.int .i64 (firstV n T D)) ∧ Below w.heap.size w w' := by
  have b0 := gr_alloc (gr_alloc (gr_alloc (Below.refl w.heap.size w) (.cells #[.int .i64 (n : Int), ev] 24)) (.cells (tabC T) 73)) (.cells (mrkC D) 71)
  have k0 : Blk (((w.alloc (.cells #[.int .i64 (n : Int), ev] 24)).alloc (.cells (tabC T) 73)).alloc (.cells (mrkC D) 71)) w.heap.size 24 #[.int .i64 (n : Int), ev] := ((Blk.new w _ _).alloc _).alloc _
  have k1 : Blk (((w.alloc (.cells #[.int .i64 (n : Int), ev] 24)).alloc (.cells (tabC T) 73)).alloc (.cells (mrkC D) 71)) (w.heap.size + 1) 73 (tabC T) := (blk_at (by simp)).alloc _
  have k2 : Blk (((w.alloc (.cells #[.int .i64 (n : Int), ev] 24)).alloc (.cells (tabC T) 73)).alloc (.cells (mrkC D) 71)) (w.heap.size + 1 + 1) 71 (mrkC D) := blk_at (by simp)
  have htg := fun a b ha hb W => together_ref T a b ha hb W
  have hn' : (n : Int) ≤ 64 := by omega
  have K := Lib.hid (And.intro b0 (And.intro k0 (And.intro k1 (And.intro k2 htg))))
  have hi1 : (Try.prog.info? 73).map (·.size) = some (tabC T).toList.length := by rw [Array.length_toList, tabC_size]; exact infoTab
  clear b0 k0 k1 k2 htg
  go_enter Try.func66, Try.ntmps66
  go_wp2_with (fail)
  obtain ⟨X0, hX0⟩ : ∃ X0, (((w.alloc (.cells #[.int .i64 (n : Int), ev] 24)).alloc (.cells (tabC T) 73)).alloc (.cells (mrkC D) 71)) = X0 := ⟨_, rfl⟩
  rw [hX0] at K ⊢
  clear hX0
  obtain ⟨ct, hct⟩ : ∃ ct, ct = tabC T := ⟨_, rfl⟩
  have HC := Lib.hid hct
  rw [← hct] at hi1
  clear hct
  go_loopg [7] n (fun q iv wr => ∃ i : Nat, q = n - i ∧ i ≤ n ∧ iv = .int .i64 (i : Int) ∧ (∀ j, j < i → okF n T D j = false) ∧ Below X0.heap.size X0 wr)
  case atStart => exact ⟨0, rfl, Nat.zero_le _, rfl, fun j hj => absurd hj (Nat.not_lt_zero j), Below.refl _ _⟩
  case round =>
    obtain ⟨i, hq, hi, rfl, hno, hbel⟩ := hrel
    have kk0 := K.out.2.1.call hbel
    have r0 := kk0.cell' (i := 0) rfl
    have l0 := kk0.lt
    by_cases hin : i < n
    · have hi' : (i : Int) < (n : Int) := by omega
      have hi6 : i < 64 := by omega
      have hi7 : (i : Int) < 64 := by omega
      have kk2 := K.out.2.2.2.1.call hbel
      have cd := kk2.cell' (vecC_at (fun k => .bool (D k)) hi6)
      have l2 := kk2.lt
      have h00 : okT T D i 0 = !D i := rfl
      obtain ⟨di, hdi⟩ : ∃ di, di = D i := ⟨_, rfl⟩
      rw [← hdi] at cd h00
      have B := Lib.hid (And.intro hno (And.intro hbel (And.intro hq h00)))
      clear hno hbel hq h00 kk0 kk2 hdi
      go_wp2_with (fail)
      go_loopg [9, 8] n (fun q kv bv wr => ∃ k : Nat, q = n - k ∧ k ≤ n ∧ kv = .int .i64 (k : Int) ∧ bv = .bool (okT T D i k) ∧ Below X0.heap.size X0 wr)
      case atStart => exact ⟨0, rfl, Nat.zero_le _, rfl, by rw [B.out.2.2.2], B.out.2.1⟩
      case round =>
        obtain ⟨k, hq, hk, rfl, rfl, hbel⟩ := hrel
        have kk0 := K.out.2.1.call hbel
        have r0 := kk0.cell' (i := 0) rfl
        have l0 := kk0.lt
        by_cases hkn : k < n
        · have hk' : (k : Int) < (n : Int) := by omega
          have hk6 : k < 64 := by omega
          have hk7 : (k : Int) < 64 := by omega
          have kk1 := K.out.2.2.1.call hbel
          have kk2 := K.out.2.2.2.1.call hbel
          have cd := kk2.cell' (vecC_at (fun k => .bool (D k)) hk6)
          have l2 := kk2.lt
          have l1 := kk1.lt
          have rN := range_blk kk1
          rw [← HC.out] at rN
          have hst : okT T D i (k + 1) = (okT T D i k && (D k || tog T i k || !T k i)) := rfl
          have htg := K.out.2.2.2.2 i k hi6 hk6 wr
          rw [← HC.out] at htg
          have F := Lib.hid (And.intro hbel (And.intro hq (And.intro hst (And.intro kk1 htg))))
          clear hbel hq hst htg kk0 kk1 kk2
          obtain ⟨dk, hdk⟩ : ∃ b, b = D k := ⟨_, rfl⟩
          rw [← hdk] at cd F
          clear hdk
          obtain ⟨b, hb⟩ : ∃ b, b = okT T D i k := ⟨_, rfl⟩
          rw [← hb] at F ⊢
          clear hb
          cases b with
          | false =>
            go_wp2_with (fail)
            go_roundg (n - (k + 1))
            case measure => have := F.out.2.1; omega
            case rel => exact ⟨k + 1, rfl, hkn, rfl, by rw [F.out.2.2.1]; rfl, F.out.1⟩
          | true =>
            cases dk with
            | true =>
              go_wp2_with (fail)
              go_roundg (n - (k + 1))
              case measure => have := F.out.2.1; omega
              case rel => exact ⟨k + 1, rfl, hkn, rfl, by rw [F.out.2.2.1]; rfl, F.out.1⟩
            | false =>
              go_wp2_with (fail)
              refine wp_load_mid 73 _ rfl (w.heap.size + 1) 0 (by rfl) ct.toList _ rN Try.underlying73 rfl hi1 ?_
              go_wp2_with (fail)
              refine F.out.2.2.2.2.mono ?_
              rintro e W2 ⟨rfl, h2⟩
              have cki := (F.out.2.2.2.1.call h2).cell' (tabC_at T hk6 hi6)
              have lki := (F.out.2.2.2.1.call h2).lt
              have hb2 := gr_call F.out.1 h2
              have G := Lib.hid hb2
              clear h2 hb2 rN hi1
              obtain ⟨tg, htg⟩ : ∃ b, b = tog T i k := ⟨_, rfl⟩
              obtain ⟨tk, htk⟩ : ∃ b, b = T k i := ⟨_, rfl⟩
              rw [← htg] at F ⊢
              rw [← htk] at F cki
              clear htg htk
              cases tg with
              | true =>
                go_wp2_with (fail)
                go_roundg (n - (k + 1))
                case measure => have := F.out.2.1; omega
                case rel => exact ⟨k + 1, rfl, hkn, rfl, by rw [F.out.2.2.1]; rfl, G.out⟩
              | false =>
                cases tk with
                | true =>
                  go_wp2_with (fail)
                  go_roundg (n - (k + 1))
                  case measure => have := F.out.2.1; omega
                  case rel => exact ⟨k + 1, rfl, hkn, rfl, by rw [F.out.2.2.1]; rfl, G.out⟩
                | false =>
                  go_wp2_with (fail)
                  go_roundg (n - (k + 1))
                  case measure => have := F.out.2.1; omega
                  case rel => exact ⟨k + 1, rfl, hkn, rfl, by rw [F.out.2.2.1]; rfl, G.out⟩
        · have ek : k = n := by omega
          subst k
          have hok := okT_all n T D i
          obtain ⟨b, hb⟩ : ∃ b, b = okT T D i n := ⟨_, rfl⟩
          rw [← hb] at hok ⊢
          have F := Lib.hid (And.intro hbel hok)
          clear hbel hq hok hb kk0 hkn
          cases b with
          | true =>
            go_wp2_with (fail)
            go_ret
            rw [firstV_some hin F.out.2.symm B.out.1]
            exact ⟨rfl, gr_call K.out.1 F.out.1⟩
          | false =>
            go_wp2_with (fail)
            go_roundg (n - (i + 1))
            case measure => have := B.out.2.2.1; omega
            case rel =>
              refine ⟨i + 1, rfl, hin, rfl, fun j hj => ?_, F.out.1⟩
              by_cases e : j = i
              · subst e; exact F.out.2.symm
              · exact B.out.1 j (by omega)
    · have ei : i = n := by omega
      subst i
      have B := Lib.hid (And.intro hno hbel)
      clear hno hbel hq kk0 hin
      go_wp2_with (fail)
      go_ret
      rw [firstV_none B.out.1]
      exact ⟨rfl, gr_call K.out.1 B.out.2⟩
end Go.Proofs.Ytjgkiiohbceocaa
