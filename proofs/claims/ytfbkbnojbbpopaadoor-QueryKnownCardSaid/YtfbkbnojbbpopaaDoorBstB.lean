/-
  byteset.Union and Ranges, as the plain functions say; condition: each list lies in memory.
-/
import Derived.Test.YtfbkbnojbbpopaaDoorBstA
import Derived.Deep.RegionHeld3
import Derived.BigQuiet
namespace Go.Proofs.YtfbkbnojbbpopaaDoor
open Go.RowKit
set_option linter.unusedVariables false
set_option linter.unusedSimpArgs false


/-- The cells of sets. -/
def setAt (Z : Nat → Nat → Bool) : Nat → Nat → Value := fun i j => .int .u64 (setW (Z i) j : Int)
theorem u64_bound (p : Nat → Bool) (j : Nat) : setW p j < 18446744073709551616 := setW_lt p j
theorem mix_or (p z : Nat → Bool) (j : Nat) (hj : j < 4) : (setC (mixP j p (orP p z))).setIfInBounds j (.int .u64 (bits .or .u64 (setW p j : Int) (setW z j : Int))) = setC (mixP (j + 1) p (orP p z)) := by
  rw [or_word _ _ (u64_bound p j) (u64_bound z j), ← setW_or]
  exact setC_mix j hj p _
theorem mix_and (p z : Nat → Bool) (j : Nat) (hj : j < 4) : (setC (mixP j p (andP p z))).setIfInBounds j (.int .u64 (bits .and .u64 (setW p j : Int) (setW z j : Int))) = setC (mixP (j + 1) p (andP p z)) := by
  rw [u64_and_nat _ _ (u64_bound p j) (u64_bound z j), ← setW_and]
  exact setC_mix j hj p _
set_option maxRecDepth 100000 in
set_option maxHeartbeats 1000000 in
theorem bunion (A : Option Addr) (n cap : Nat) (Z : Nat → Nat → Bool) (hn : n ≤ 4398046511104) (w : World) (hA : Cells w A 4 n (setAt Z)) :
    Calls Tryd.prog 55 #[.slice A n cap] w fun e w' => e = .returned (Value.agg #[.int .u64 (setW (orL Z n) 0 : Int), .int .u64 (setW (orL Z n) 1 : Int), .int .u64 (setW (orL Z n) 2 : Int), .int .u64 (setW (orL Z n) 3 : Int)]) ∧ Below w.heap.size w w' := by
  have HA := Lib.hid hA
  clear hA
  go_enter Tryd.func55, Tryd.ntmps55
  go_wp2_with (fail)
  go_loopw [9] (fun i wr => ∃ k : Nat, k ≤ n ∧ i = .int .i64 (k : Int) ∧ SetAt w (orL Z k) wr) (fun i _ => n - (intOf i).toNat)
  case atStart => exact ⟨0, Nat.zero_le _, rfl, SetAt.start w⟩
  case round =>
    obtain ⟨k, hk, rfl, hat⟩ := hrel
    by_cases hlt : k < n
    · obtain ⟨ab, ao, rfl, had, hcl⟩ := (HA.out.below hat.2.2) (by omega)
      have c0 : wr.cell? ⟨ab, ao + k * 4, none⟩ = some (.int .u64 (setW (Z k) 0 : Int)) := hcl k 0 hlt (by decide)
      have c1 : wr.cell? ⟨ab, ao + k * 4 + 1, none⟩ = some (.int .u64 (setW (Z k) 1 : Int)) := hcl k 1 hlt (by decide)
      have c2 : wr.cell? ⟨ab, ao + k * 4 + 2, none⟩ = some (.int .u64 (setW (Z k) 2 : Int)) := hcl k 2 hlt (by decide)
      have c3 : wr.cell? ⟨ab, ao + k * 4 + 3, none⟩ = some (.int .u64 (setW (Z k) 3 : Int)) := hcl k 3 hlt (by decide)
      clear hcl
      have hin : SetAt w (mixP 0 (orL Z k) (orP (orL Z k) (Z k))) wr := hat.same (setC_mix0 _ _).symm
      have HIN := Lib.hid hin
      obtain ⟨X, hX⟩ : ∃ X, X = wr.heap.size := ⟨_, rfl⟩
      have HX := Lib.hid hX
      have hX1 : w.heap.size + 1 < X := by have := hat.1.lt; omega
      clear hat hin hX
      go_wp2_with (fail)
      rw [← HX.out]
      go_loopw [13] (fun i wx => ∃ j : Nat, j ≤ 4 ∧ i = .int .i64 (j : Int) ∧ SetAt w (mixP j (orL Z k) (orP (orL Z k) (Z k))) wx ∧ Blk wx X 34 #[Value.int .u64 (setW (Z k) 0 : Int), .int .u64 (setW (Z k) 1 : Int), .int .u64 (setW (Z k) 2 : Int), .int .u64 (setW (Z k) 3 : Int)]) (fun i _ => 4 - (intOf i).toNat)
      case atStart => exact ⟨0, by omega, rfl, HIN.out.alloc _, by rw [HX.out]; exact Blk.new _ _ _⟩
      case round =>
        obtain ⟨j, hj, rfl, hin, hblk⟩ := hrel
        by_cases hj4 : j < 4
        · have d0 := hin.1.cell' (i := j) (setC_get _ j hj4)
          rw [mixP_at] at d0
          have d1 := hblk.cell' (i := j) (setC_get _ j hj4)
          have df := hin.1.frozen j
          have H := Lib.hid (And.intro hin hblk)
          clear hin hblk
          go_wp2_with (fail)
          go_region
          all_goals go_wp2
          exact ⟨⟨j + 1, by omega, by go_num, (H.out.1.set_ (mix_or _ _ _ hj4)).drew, (H.out.2.far (by simp; omega) _).drew⟩, by simp [intOf]; omega⟩
        · obtain rfl : j = 4 := by omega
          have H := Lib.hid hin
          clear hin
          go_wp2_with (fail)
          exact ⟨⟨k + 1, by omega, by go_num, H.out.same (setC_mix4 _ _)⟩, by simp [intOf]; omega⟩
    · obtain rfl : k = n := by omega
      have a0 := hat.1.cell' (i := 0) rfl
      have a1 := hat.1.cell' (i := 1) rfl
      have a2 := hat.1.cell' (i := 2) rfl
      have a3 := hat.1.cell' (i := 3) rfl
      have b0 := hat.2.1.cell' (i := 0) rfl
      have b1 := hat.2.1.cell' (i := 1) rfl
      have b2 := hat.2.1.cell' (i := 2) rfl
      have b3 := hat.2.1.cell' (i := 3) rfl
      have f0 := hat.2.1.frozen 0
      have f1 := hat.2.1.frozen 1
      have f2 := hat.2.1.frozen 2
      have f3 := hat.2.1.frozen 3
      have HB := Lib.hid hat.2.2
      have hsz := hat.1.lt
      clear hat
      go_wp2
      refine bodyPost_ret (v := Value.agg #[.int .u64 (setW (orL Z k) 0 : Int), .int .u64 (setW (orL Z k) 1 : Int), .int .u64 (setW (orL Z k) 2 : Int), .int .u64 (setW (orL Z k) 3 : Int)]) (by simp [results, Tryd.results55, go_sem, b0, b1, b2, b3]) rfl ⟨rfl, ?_⟩
      exact gr_set (gr_set (gr_set (gr_set HB.out (by simp) _) (by simp) _) (by simp) _) (by simp) _


theorem bof1 (n b cap : Nat) (hb : b < 256) (W : World) (t : TypeId) (hn : Blk W n t #[.int .u8 (b : Int)]) :
    Calls Tryd.prog 56 #[.slice (some ⟨n, 0, none⟩) 1 cap] W fun e w' => e = .returned (Value.agg #[.int .u64 (setW (insP noP b) 0 : Int), .int .u64 (setW (insP noP b) 1 : Int), .int .u64 (setW (insP noP b) 2 : Int), .int .u64 (setW (insP noP b) 3 : Int)]) ∧ Below W.heap.size W w' := by
  refine bof _ 1 cap (fun _ => b) (fun _ => hb) (by decide) _ (fun _ => ⟨_, _, rfl, hn.lt, fun i j hi hj => ?_⟩)
  obtain rfl : i = 0 := by omega
  obtain rfl : j = 0 := by omega
  exact hn.cell' rfl
theorem bunion2 (n cap : Nat) (p q : Nat → Bool) (W : World) (t : TypeId) (hn : Blk W n t #[Value.int .u64 (setW p 0 : Int), .int .u64 (setW p 1 : Int), .int .u64 (setW p 2 : Int), .int .u64 (setW p 3 : Int), Value.int .u64 (setW q 0 : Int), .int .u64 (setW q 1 : Int), .int .u64 (setW q 2 : Int), .int .u64 (setW q 3 : Int)]) :
    Calls Tryd.prog 55 #[.slice (some ⟨n, 0, none⟩) 2 cap] W fun e w' => e = .returned (Value.agg #[.int .u64 (setW (orP p q) 0 : Int), .int .u64 (setW (orP p q) 1 : Int), .int .u64 (setW (orP p q) 2 : Int), .int .u64 (setW (orP p q) 3 : Int)]) ∧ Below W.heap.size W w' := by
  refine (bunion _ 2 cap (fun k => if k = 0 then p else q) (by decide) _ (fun _ => ⟨_, _, rfl, hn.lt, fun i j hi hj => ?_⟩)).mono ?_
  · have h := hn.cell (i * 4 + j)
    rw [Nat.zero_add, h]
    match i, j, hi, hj with
    | 0, 0, _, _ => rfl
    | 0, 1, _, _ => rfl
    | 0, 2, _, _ => rfl
    | 0, 3, _, _ => rfl
    | 1, 0, _, _ => rfl
    | 1, 1, _, _ => rfl
    | 1, 2, _, _ => rfl
    | 1, 3, _, _ => rfl
  rintro e w' ⟨rfl, hb⟩
  refine ⟨?_, hb⟩
  have : orL (fun k => if k = 0 then p else q) 2 = orP p q := by
    funext c; simp [orL, orP, noP]
  rw [this]
/-- The cells of ranges. -/
def rngAt (L H : Nat → Nat) : Nat → Nat → Value := fun i j => .int .u8 ((if j = 0 then L i else H i : Nat) : Int)
/-- The bytes from a on, m of them, besides. -/
def spanP (p : Nat → Bool) (a : Nat) : Nat → Nat → Bool
  | 0 => p
  | m + 1 => insP (spanP p a m) (a + m)
/-- The set of the first k ranges. -/
def rngP (L H : Nat → Nat) : Nat → Nat → Bool
  | 0 => noP
  | k + 1 => spanP (rngP L H k) (L k) (H k + 1 - L k)
/-- Is one of the first k ranges the wrong way round? -/
def rngBad (L H : Nat → Nat) : Nat → Bool
  | 0 => false
  | k + 1 => rngBad L H k || decide (H k < L k)
def rngV (L H : Nat → Nat) (n : Nat) : Nat → Bool := if rngBad L H n then noP else rngP L H n
def rngE (L H : Nat → Nat) (n : Nat) : Int := if rngBad L H n then 8 else 0
theorem rngBad_mono (L H : Nat → Nat) (k n : Nat) (h : k ≤ n) (hb : rngBad L H k = true) : rngBad L H n = true := by
  induction n with
  | zero => obtain rfl : k = 0 := by omega
            exact hb
  | succ n ih =>
    by_cases e : k = n + 1
    · subst e; exact hb
    · unfold rngBad; rw [ih (by omega)]; rfl
theorem setC_ins1 (p : Nat → Bool) (b : Nat) : setC (orP p (insP noP b)) = setC (insP p b) := setC_ext (fun c _ => by simp [orP, insP, noP, Bool.or_comm])
set_option maxRecDepth 100000 in
set_option maxHeartbeats 2000000 in
theorem branges (A : Option Addr) (n cap : Nat) (L H : Nat → Nat) (hL : ∀ i, L i < 256) (hH : ∀ i, H i < 256) (hn : n ≤ 140737488355328) (w : World) (hA : Cells w A 2 n (rngAt L H)) :
    Calls Tryd.prog 54 #[.slice A n cap] w fun e w' => e = .returned (.tuple #[Value.agg #[.int .u64 (setW (rngV L H n) 0 : Int), .int .u64 (setW (rngV L H n) 1 : Int), .int .u64 (setW (rngV L H n) 2 : Int), .int .u64 (setW (rngV L H n) 3 : Int)], .int .i64 (rngE L H n)]) ∧ Below w.heap.size w w' := by
  have hz := Lib.hid (And.intro hL hH)
  have HA := Lib.hid hA
  clear hL hH hA
  go_enter Tryd.func54, Tryd.ntmps54
  go_wp2_with (fail)
  go_loopw [10] (fun i wr => ∃ k : Nat, k ≤ n ∧ rngBad L H k = false ∧ i = .int .i64 (k : Int) ∧ SetAt w (rngP L H k) wr) (fun i _ => n - (intOf i).toNat)
  case atStart => exact ⟨0, Nat.zero_le _, rfl, rfl, SetAt.start w⟩
  case round =>
    obtain ⟨k, hk, hbad, rfl, hat⟩ := hrel
    by_cases hlt : k < n
    · obtain ⟨ab, ao, rfl, had, hcl⟩ := (HA.out.below hat.2.2) (by omega)
      have c0 : wr.cell? ⟨ab, ao + k * 2, none⟩ = some (.int .u8 (L k : Int)) := hcl k 0 hlt (by decide)
      have c1 : wr.cell? ⟨ab, ao + k * 2 + 1, none⟩ = some (.int .u8 (H k : Int)) := hcl k 1 hlt (by decide)
      have hl := hz.out.1 k
      have hsz := hat.1.lt
      have hsz0 : w.heap.size < wr.heap.size := by omega
      have hh := hz.out.2 k
      clear hcl
      by_cases hgt : H k < L k
      · have a0 := hat.2.1.cell' (i := 0) rfl
        have a1 := hat.2.1.cell' (i := 1) rfl
        have a2 := hat.2.1.cell' (i := 2) rfl
        have a3 := hat.2.1.cell' (i := 3) rfl
        have f0 := hat.2.1.frozen 0
        have f1 := hat.2.1.frozen 1
        have f2 := hat.2.1.frozen 2
        have f3 := hat.2.1.frozen 3
        have HAT := Lib.hid hat
        clear hat
        go_wp2_with (fail)
        refine bodyPost_ret (v := .tuple #[.agg #[.int .u64 0, .int .u64 0, .int .u64 0, .int .u64 0], .int .i64 8]) (by simp [results, Tryd.results54, go_sem, a0, a1, a2, a3, hsz0]) rfl ⟨?_, ?_⟩
        · have e : rngBad L H n = true := rngBad_mono L H (k + 1) n (by omega) (by unfold rngBad; rw [decide_eq_true hgt, Bool.or_true])
          rw [rngV, rngE, e, if_pos rfl, if_pos rfl, setW_no, setW_no, setW_no, setW_no]
          rfl
        · have h2 := gr_alloc HAT.out.2.2 (.cells #[.int .u8 (L k : Int), .int .u8 (H k : Int)] 88)
          have h3 := HAT.out.2.2
          repeat (first | exact h3 | refine gr_set ?_ (by simp) _ | refine gr_alloc ?_ _)
      · have HAT := Lib.hid hat
        have hbd : rngBad L H (k + 1) = false := by unfold rngBad; rw [hbad, decide_eq_false hgt]; rfl
        have HBD := Lib.hid hbd
        clear hat hbad hbd
        obtain ⟨X, hX⟩ : ∃ X, X = wr.heap.size := ⟨_, rfl⟩
        have HX := Lib.hid hX
        have hX1 : w.heap.size + 1 < X := by omega
        clear hX
        go_wp2_with (fail)
        rw [← HX.out]
        go_loopw [7] (fun i wx => ∃ m : Nat, L k + m ≤ H k + 1 ∧ i = .int .i64 ((L k + m : Nat) : Int) ∧ SetAt w (spanP (rngP L H k) (L k) m) wx ∧ Blk wx X 88 #[.int .u8 (L k : Int), .int .u8 (H k : Int)]) (fun i _ => H k + 1 - (intOf i).toNat)
        case atStart => exact ⟨0, by omega, rfl, HAT.out.alloc _, by rw [HX.out]; exact Blk.new _ _ _⟩
        case round =>
          obtain ⟨m, hm, rfl, hin, hblk⟩ := hrel
          have r0 := hblk.cell' (i := 0) rfl
          have r1 := hblk.cell' (i := 1) rfl
          by_cases hm4 : L k + m ≤ H k
          · obtain ⟨v, hv⟩ : ∃ v, v = L k + m := ⟨_, rfl⟩
            have HV := Lib.hid hv
            have hvl : v ≤ H k := by omega
            rw [← hv]
            clear hv
            have a0 := hin.1.cell' (i := 0) rfl
            have a1 := hin.1.cell' (i := 1) rfl
            have a2 := hin.1.cell' (i := 2) rfl
            have a3 := hin.1.cell' (i := 3) rfl
            have f0 := hin.1.frozen 0
            have f1 := hin.1.frozen 1
            have f2 := hin.1.frozen 2
            have f3 := hin.1.frozen 3
            have HIN := Lib.hid (And.intro hin hblk)
            have hsx := hin.1.lt
            have hwv : IntKind.u8.wrap (v : Int) = (v : Int) := by rw [IntKind.wrap_u8]; omega
            clear hin hblk hm hm4
            go_wp2_with (fail)
            go_region_with (first
              | (go_at_call 56; refine (bof1 _ v _ (by omega) _ 5 (by first | exact (Blk.new _ _ _).drew | exact Blk.new _ _ _)).mono ?_; rintro e W ⟨rfl, hb⟩; have HB : Below wr.heap.size wr W := (by refine gr_call ?_ hb; repeat (first | exact HB | exact Below.refl _ _ | refine gr_drew ?_ | refine gr_alloc ?_ _)); have hz : w.heap.size + 1 < W.heap.size := (by have := HB.size; omega); obtain ⟨c0, c1, c2, c3, g0, g1, g2, g3⟩ := (HIN.out.1.below HB).facts)
              | (go_at_call 55; refine (bunion2 _ _ _ _ _ 34 (by first | exact (Blk.new _ _ _).drew | exact Blk.new _ _ _)).mono ?_; rintro e W ⟨rfl, hb⟩; have HB : Below wr.heap.size wr W := (by refine gr_call ?_ hb; repeat (first | exact HB | exact Below.refl _ _ | refine gr_drew ?_ | refine gr_alloc ?_ _)); have hz : w.heap.size + 1 < W.heap.size := (by have := HB.size; omega); obtain ⟨c0, c1, c2, c3, g0, g1, g2, g3⟩ := (HIN.out.1.below HB).facts))
            all_goals
              have hW := (HIN.out.1.below HB).store (q' := orP (spanP (rngP L H k) (L k) m) (insP noP v))
              have hS := Lib.hid (hW.same (setC_ins1 _ _))
              have hX2 := Lib.hid (HIN.out.2.call HB)
              clear hW c0 c1 c2 c3 g0 g1 g2 g3 a0 a1 a2 a3 f0 f1 f2 f3 r0 r1
              go_wp2
              have hv := HV.out
              refine ⟨⟨m + 1, by omega, by rw [hv]; go_num, ?_, ?_⟩, by simp [intOf]; omega⟩
              · show SetAt w (insP (spanP (rngP L H k) (L k) m) (L k + m)) _
                rw [← hv]
                first | exact hS.out | exact hS.out.drew
              · first | exact (((hX2.out.far (by simp; omega) _).far (by simp; omega) _).far (by simp; omega) _).far (by simp; omega) _ | exact ((((hX2.out.far (by simp; omega) _).far (by simp; omega) _).far (by simp; omega) _).far (by simp; omega) _).drew
          · have HIN := Lib.hid (And.intro hin hblk)
            have em : m = H k + 1 - L k := by omega
            have EM := Lib.hid em
            clear hin hblk em
            go_wp2_with (fail)
            refine ⟨⟨k + 1, by omega, HBD.out, by go_num, ?_⟩, by simp [intOf]; omega⟩
            show SetAt w (spanP (rngP L H k) (L k) (H k + 1 - L k)) wr
            rw [← EM.out]
            exact HIN.out.1
    · obtain rfl : k = n := by omega
      have a0 := hat.1.cell' (i := 0) rfl
      have a1 := hat.1.cell' (i := 1) rfl
      have a2 := hat.1.cell' (i := 2) rfl
      have a3 := hat.1.cell' (i := 3) rfl
      have b0 := hat.2.1.cell' (i := 0) rfl
      have b1 := hat.2.1.cell' (i := 1) rfl
      have b2 := hat.2.1.cell' (i := 2) rfl
      have b3 := hat.2.1.cell' (i := 3) rfl
      have f0 := hat.2.1.frozen 0
      have f1 := hat.2.1.frozen 1
      have f2 := hat.2.1.frozen 2
      have f3 := hat.2.1.frozen 3
      have HB := Lib.hid (And.intro hat.2.2 hbad)
      have hsz := hat.1.lt
      clear hat hbad
      go_wp2
      refine bodyPost_ret (v := .tuple #[Value.agg #[.int .u64 (setW (rngP L H k) 0 : Int), .int .u64 (setW (rngP L H k) 1 : Int), .int .u64 (setW (rngP L H k) 2 : Int), .int .u64 (setW (rngP L H k) 3 : Int)], .int .i64 0]) (by simp [results, Tryd.results54, go_sem, b0, b1, b2, b3]) rfl ⟨by rw [rngV, rngE, HB.out.2]; rfl, ?_⟩
      exact gr_set (gr_set (gr_set (gr_set HB.out.1 (by simp) _) (by simp) _) (by simp) _) (by simp) _
theorem cells_rng {w wr : World} {ab ao n : Nat} {L H : Nat → Nat} (h : Cells w (some ⟨ab, ao, none⟩) 2 n (rngAt L H)) (hb : Below w.heap.size w wr) {k : Nat} (hk : k < n) :
    wr.cell? ⟨ab, ao + k * 2, none⟩ = some (.int .u8 (L k : Int)) ∧ wr.cell? ⟨ab, ao + k * 2 + 1, none⟩ = some (.int .u8 (H k : Int)) := by
  obtain ⟨_, _, e, _, hc⟩ := (h.below hb) (by omega)
  cases e
  exact ⟨hc k 0 hk (by decide), hc k 1 hk (by decide)⟩
end Go.Proofs.YtfbkbnojbbpopaaDoor
