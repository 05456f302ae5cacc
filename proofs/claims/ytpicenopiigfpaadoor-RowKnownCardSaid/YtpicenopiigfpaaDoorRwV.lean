/-
  RowReads, walked: it returns true, whatever the input; condition: the variable ErrSyntax holds an interface value.
-/
import Derived.Test.YtpicenopiigfpaaDoorRwU
import Derived.Test.YtpicenopiigfpaaDoorRwN
import Derived.Test.YtpicenopiigfpaaDoorRwO
import Derived.Test.YtpicenopiigfpaaDoorRwBd
namespace Go.Proofs.YtpicenopiigfpaaDoor
open Go.RowKit
set_option linter.unusedVariables false
set_option linter.unusedSimpArgs false

theorem eqFault (a b : Int) (w : World) : (Op.equalIn 10000 26 (.agg #[.int .i64 a, .int .i64 b]) (.agg #[.int .i64 a, .int .i64 b])).run Tryd.prog w = .ok true w := by
  have u2 := Tryd.underlying3
  have a2 := Tryd.isAgg3
  have z2 := Tryd.sizeOf3
  have u3 := Tryd.underlying24
  have a3 := Tryd.isAgg24
  have z3 := Tryd.sizeOf24
  rw [show (10000 : Nat) = 9999 + 1 from rfl, Op.equalIn]
  simp only [Sem.run_bind, run_underlying Tryd.underlying26, Result.andThen_ok]
  go_simp

set_option maxRecDepth 100000 in
set_option maxHeartbeats 4000000 in
theorem law_reads (s : ByteArray) (ws : s.size ≤ 9223372036854775807) (w : World) (hE : ErrV w 0) :
    Calls Tryd.prog 3 #[.string s] w fun e W' => e = .returned (.bool true) ∧ Below w.heap.size w W' := by
  have HE := Lib.hid hE
  clear hE
  by_cases h0 : 3000 < s.size ∧ s.size ≤ 20000 ∨ 20100 < s.size
  · rcases (show ((3000 : Int) < s.size ∧ (s.size : Int) ≤ 20000) ∨ ((3000 : Int) < s.size ∧ ¬ (s.size : Int) ≤ 20000 ∧ (20100 : Int) < s.size) by omega) with ⟨h1, h2⟩ | ⟨h1, h2, h3⟩
    all_goals
      clear h0
      go_enter Tryd.func3, Tryd.ntmps3
      go_wp2_with (fail)
      refine (lawake _ HE.out).mono ?_
      rintro e W1 ⟨rfl, h1⟩
      have H1 := Lib.hid h1
      clear h1
      go_wp2_with (fail)
      go_ret
      exact ⟨rfl, H1.out⟩
  · have hsm : s.size ≤ 20100 := by omega
    obtain ⟨r, hr⟩ : ∃ r, r = rowsR s.data.toList := ⟨_, rfl⟩
    have hlen := rowsV_len s.data.toList
    rw [size_data] at hlen
    unfold rowsV at hlen
    rw [← hr] at hlen
    have h1 := fun W hE => wrows s (by omega) W hE
    have h2 := fun W => rRows s W (by omega)
    rw [← hr] at h1 h2
    obtain ⟨rs, x, y⟩ := r
    have hne : x = 0 ∨ True := .inr trivial
    have HH := Lib.hid (And.intro h1 (And.intro h2 hlen))
    clear h1 h2 hlen hr
    rcases (show ¬ (3000 : Int) < s.size ∧ ¬ (20100 : Int) < s.size ∨ ((3000 : Int) < s.size ∧ ¬ (s.size : Int) ≤ 20000 ∧ ¬ (20100 : Int) < s.size) by omega) with ⟨h1, h2⟩ | ⟨h1, h2, h3⟩
    all_goals
      clear h0
      have hq := fun W => eqFault x y W
      go_enter Tryd.func3, Tryd.ntmps3
      go_wp2_with (fail)
      refine (HH.out.1 _ HE.out).mono ?_
      rintro e W1 ⟨v, rfl, ho1, g1⟩
      have H1 := Lib.hid (And.intro ho1.in_ g1)
      clear ho1 g1
      go_wp2_with (fail)
      refine (HH.out.2.1 _).mono ?_
      rintro e W2 ⟨u, rfl, ho2, g2⟩
      have hb4 := (Blk.new W1 26 #[.int .i64 x, .int .i64 y]).call g2
      have H2 := Lib.hid (And.intro ho2.in_ (And.intro (H1.out.1.below (gr_call (gr_alloc (Below.refl _ _) _) g2)) (And.intro (gr_call (gr_alloc H1.out.2 _) g2) hb4)))
      clear ho2 g2 hb4
      go_wp2_with (fail)
      have hal := gr_alloc (Below.refl W2.heap.size W2) (.cells #[.int .i64 x, .int .i64 y] 26)
      refine (lsame (rs.getD []) (by have := HH.out.2.2.1; omega) (fun r hr => by have := (HH.out.2.2.2 r hr).1; omega) v u _ (H2.out.2.1.below hal) (H2.out.1.below hal)).mono ?_
      rintro e W3 ⟨rfl, g3⟩
      have hb5 := (H2.out.2.2.2.call hal).call g3
      have hb6 := (Blk.new W2 26 #[.int .i64 x, .int .i64 y]).call g3
      have d0 := hb5.cell' (i := 0) (v := .int .i64 x) rfl
      have d1 := hb5.cell' (i := 1) (v := .int .i64 y) rfl
      have e0 := hb6.cell' (i := 0) (v := .int .i64 x) rfl
      have e1 := hb6.cell' (i := 1) (v := .int .i64 y) rfl
      have z1 := hb5.lt
      have z2 := hb6.lt
      have hB3 := gr_call (gr_call H2.out.2.2.1 hal) g3
      have H3 := Lib.hid (And.intro hB3 (HE.out.below hB3 HE.out.lt))
      clear hal g3 hb5 hb6 hB3
      go_wp2_with (fail)
      refine (lawake _ H3.out.2).mono ?_
      rintro e W4 ⟨rfl, g4⟩
      have H4 := Lib.hid (gr_call H3.out.1 g4)
      clear g4
      go_wp2_with (fail)
      go_ret
      exact ⟨rfl, H4.out⟩
end Go.Proofs.YtpicenopiigfpaaDoor
