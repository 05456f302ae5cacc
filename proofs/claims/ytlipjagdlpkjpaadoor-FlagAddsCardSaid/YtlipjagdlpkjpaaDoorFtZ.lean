/-
  FlagAdds, walked; conditions: the two tables lie as they are laid, a variable of the library is an int.
-/
import Derived.Test.YtlipjagdlpkjpaaDoorFtV
import Derived.Test.YtlipjagdlpkjpaaDoorFtQ
namespace Go.Proofs.YtlipjagdlpkjpaaDoor
open Go.RowKit Go.Joins
set_option linter.unusedVariables false
set_option linter.unusedSimpArgs false

set_option maxRecDepth 100000 in
set_option maxHeartbeats 4000000 in
theorem law_adds (f : Flg) (hf : FlgOk f) (G : Nat → ByteArray) (A : Option Addr) (n c : Nat) (w : World) (hT : Tabs w) (hm : MaxOk w) (hA : Cells w A 1 n (strAt G)) (hO : ArgOk A n c) :
    Calls Tryd.prog 5 #[Value.agg #[Value.bool f.last, .bool f.next, .bool f.chain, .bool f.fin, .bool f.forb, .bool f.gone, .bool f.app, .bool f.disc, .int .i64 f.skip, .int .i64 f.red], .slice A n c] w fun e W' => e = .returned (.bool true) ∧ Below w.heap.size w W' := by
  have hb0 := gr_alloc (Below.refl w.heap.size w) (.cells #[Value.bool f.last, .bool f.next, .bool f.chain, .bool f.fin, .bool f.forb, .bool f.gone, .bool f.app, .bool f.disc, .int .i64 f.skip, .int .i64 f.red] 24)
  have HT := Lib.hid (And.intro hT (And.intro hm (And.intro hf (And.intro hb0 (And.intro (Blk.new w 24 #[Value.bool f.last, .bool f.next, .bool f.chain, .bool f.fin, .bool f.forb, .bool f.gone, .bool f.app, .bool f.disc, .int .i64 f.skip, .int .i64 f.red]) (And.intro hA (hA.below hb0)))))))
  clear hT hm hf hA hb0 hO
  go_enter Tryd.func5, Tryd.ntmps5
  by_cases hh : (8 : Int) < (n : Int)
  · go_wp2_with (fail)
    refine (awake _ (HT.out.1.below HT.out.2.2.2.1 (Nat.le_refl _)) (HT.out.2.1.below HT.out.2.2.2.1 (Nat.le_refl _))).mono ?_
    rintro e W1 ⟨rfl, h1⟩
    have H1 := Lib.hid (gr_call HT.out.2.2.2.1 h1)
    clear h1
    go_wp2_with (fail)
    go_ret
    exact ⟨rfl, H1.out⟩
  · have hn8 : n ≤ 8 := by omega
    go_wp2_with (fail)
    obtain ⟨wb, hwb⟩ : ∃ wb, wb = w.alloc (.cells #[Value.bool f.last, .bool f.next, .bool f.chain, .bool f.fin, .bool f.forb, .bool f.gone, .bool f.app, .bool f.disc, .int .i64 f.skip, .int .i64 f.red] 24) := ⟨_, rfl⟩
    have HB := Lib.hid (And.intro HT.out.2.2.2.2.2.2 (And.intro HT.out.2.2.2.2.1 HT.out.2.2.2.1))
    rw [← hwb] at HB ⊢
    have hlw : w.heap.size < wb.heap.size := HB.out.2.1.lt
    clear hwb
    go_loop [5] (fun i => ∃ k : Nat, k ≤ n ∧ i = .int .i64 (k : Int) ∧ Hid (∀ j, j < k → (G j).size ≤ 20)) (fun i => n - (intOf i).toNat)
    case atStart => exact ⟨0, Nat.zero_le _, rfl, Lib.hid fun j hj => absurd hj (by omega)⟩
    case round =>
      obtain ⟨k, hk, rfl, hs⟩ := hrel
      by_cases hlt : k < n
      · obtain ⟨ab, ao, rfl, had, hcl⟩ := HB.out.1 (by omega)
        obtain ⟨p, hp⟩ : ∃ p, p = G k := ⟨_, rfl⟩
        have hc : wb.cell? ⟨ab, ao + k, none⟩ = some (.string p) := by rw [hp]; have h1 := hcl k 0 hlt (by decide); rw [Nat.mul_one, Nat.add_zero] at h1; exact h1
        have HP := Lib.hid hp
        clear hcl hp
        by_cases h20 : (20 : Int) < (p.size : Int)
        · go_wp2_with (fail)
          refine (awake _ (HT.out.1.below HB.out.2.2 (Nat.le_refl _)) (HT.out.2.1.below HB.out.2.2 (Nat.le_refl _))).mono ?_
          rintro e W1 ⟨rfl, h1⟩
          have H1 := Lib.hid (gr_call HB.out.2.2 h1)
          clear h1
          go_wp2_with (fail)
          go_ret
          exact ⟨rfl, H1.out⟩
        · have nxt : Hid (∀ j, j < k + 1 → (G j).size ≤ 20) := Lib.hid (fun j hj => by
            by_cases e : j = k
            · rw [e, ← HP.out]; omega
            · exact hs.out j (by omega))
          have hpz : p.size ≤ 20 := by omega
          go_wp2_with (fail)
          exact ⟨⟨k + 1, by omega, by go_num, nxt⟩, by simp [intOf]; omega⟩
      · obtain rfl : k = n := by omega
        have hsz : Hid (∀ i, i < k → (G i).size ≤ 1000000) := Lib.hid (fun i hi => by have := hs.out i hi; omega)
        have x0 : wb.cell? ⟨w.heap.size, 0, none⟩ = some (.bool f.last) := HB.out.2.1.cell' (i := 0) rfl
        have x1 : wb.cell? ⟨w.heap.size, 1, none⟩ = some (.bool f.next) := HB.out.2.1.cell' (i := 1) rfl
        have x2 : wb.cell? ⟨w.heap.size, 2, none⟩ = some (.bool f.chain) := HB.out.2.1.cell' (i := 2) rfl
        have x3 : wb.cell? ⟨w.heap.size, 3, none⟩ = some (.bool f.fin) := HB.out.2.1.cell' (i := 3) rfl
        have x4 : wb.cell? ⟨w.heap.size, 4, none⟩ = some (.bool f.forb) := HB.out.2.1.cell' (i := 4) rfl
        have x5 : wb.cell? ⟨w.heap.size, 5, none⟩ = some (.bool f.gone) := HB.out.2.1.cell' (i := 5) rfl
        have x6 : wb.cell? ⟨w.heap.size, 6, none⟩ = some (.bool f.app) := HB.out.2.1.cell' (i := 6) rfl
        have x7 : wb.cell? ⟨w.heap.size, 7, none⟩ = some (.bool f.disc) := HB.out.2.1.cell' (i := 7) rfl
        have x8 : wb.cell? ⟨w.heap.size, 8, none⟩ = some (.int .i64 f.skip) := HB.out.2.1.cell' (i := 8) rfl
        have x9 : wb.cell? ⟨w.heap.size, 9, none⟩ = some (.int .i64 f.red) := HB.out.2.1.cell' (i := 9) rfl
        go_wp2_with (fail)
        refine (fwith f HT.out.2.2.1 G A k c (by omega) hsz.out _ (HT.out.1.below HB.out.2.2 (Nat.le_refl _)) (HT.out.2.1.below HB.out.2.2 (Nat.le_refl _)) HB.out.1).mono ?_
        rintro e W1 ⟨rfl, h1⟩
        obtain ⟨r, hr⟩ : ∃ r, r = withR f (namesL G k) := ⟨_, rfl⟩
        have HR := Lib.hid hr
        rw [← hr]
        clear x0 x1 x2 x3 x4 x5 x6 x7 x8 x9 hr
        have y1 := (HB.out.2.1.call h1).alloc (.cells #[Value.bool r.1.last, .bool r.1.next, .bool r.1.chain, .bool r.1.fin, .bool r.1.forb, .bool r.1.gone, .bool r.1.app, .bool r.1.disc, .int .i64 r.1.skip, .int .i64 r.1.red] 24)
        have y2 := Blk.new W1 24 #[Value.bool r.1.last, .bool r.1.next, .bool r.1.chain, .bool r.1.fin, .bool r.1.forb, .bool r.1.gone, .bool r.1.app, .bool r.1.disc, .int .i64 r.1.skip, .int .i64 r.1.red]
        have H1 := Lib.hid (And.intro y1 (And.intro y2 (And.intro (gr_alloc (gr_call HB.out.2.2 h1) (.cells #[Value.bool r.1.last, .bool r.1.next, .bool r.1.chain, .bool r.1.fin, .bool r.1.forb, .bool r.1.gone, .bool r.1.app, .bool r.1.disc, .int .i64 r.1.skip, .int .i64 r.1.red] 24)) ((HB.out.1.below h1).below (gr_alloc (Below.refl _ _) (.cells #[Value.bool r.1.last, .bool r.1.next, .bool r.1.chain, .bool r.1.fin, .bool r.1.forb, .bool r.1.gone, .bool r.1.app, .bool r.1.disc, .int .i64 r.1.skip, .int .i64 r.1.red] 24))))))
        have hlw1 : w.heap.size < W1.heap.size := (HB.out.2.1.call h1).lt
        clear h1 y1 y2
        have x0 : (W1.alloc (.cells #[Value.bool r.1.last, .bool r.1.next, .bool r.1.chain, .bool r.1.fin, .bool r.1.forb, .bool r.1.gone, .bool r.1.app, .bool r.1.disc, .int .i64 r.1.skip, .int .i64 r.1.red] 24)).cell? ⟨w.heap.size, 0, none⟩ = some (.bool f.last) := H1.out.1.cell' (i := 0) rfl
        have x1 : (W1.alloc (.cells #[Value.bool r.1.last, .bool r.1.next, .bool r.1.chain, .bool r.1.fin, .bool r.1.forb, .bool r.1.gone, .bool r.1.app, .bool r.1.disc, .int .i64 r.1.skip, .int .i64 r.1.red] 24)).cell? ⟨w.heap.size, 1, none⟩ = some (.bool f.next) := H1.out.1.cell' (i := 1) rfl
        have x2 : (W1.alloc (.cells #[Value.bool r.1.last, .bool r.1.next, .bool r.1.chain, .bool r.1.fin, .bool r.1.forb, .bool r.1.gone, .bool r.1.app, .bool r.1.disc, .int .i64 r.1.skip, .int .i64 r.1.red] 24)).cell? ⟨w.heap.size, 2, none⟩ = some (.bool f.chain) := H1.out.1.cell' (i := 2) rfl
        have x3 : (W1.alloc (.cells #[Value.bool r.1.last, .bool r.1.next, .bool r.1.chain, .bool r.1.fin, .bool r.1.forb, .bool r.1.gone, .bool r.1.app, .bool r.1.disc, .int .i64 r.1.skip, .int .i64 r.1.red] 24)).cell? ⟨w.heap.size, 3, none⟩ = some (.bool f.fin) := H1.out.1.cell' (i := 3) rfl
        have x4 : (W1.alloc (.cells #[Value.bool r.1.last, .bool r.1.next, .bool r.1.chain, .bool r.1.fin, .bool r.1.forb, .bool r.1.gone, .bool r.1.app, .bool r.1.disc, .int .i64 r.1.skip, .int .i64 r.1.red] 24)).cell? ⟨w.heap.size, 4, none⟩ = some (.bool f.forb) := H1.out.1.cell' (i := 4) rfl
        have x5 : (W1.alloc (.cells #[Value.bool r.1.last, .bool r.1.next, .bool r.1.chain, .bool r.1.fin, .bool r.1.forb, .bool r.1.gone, .bool r.1.app, .bool r.1.disc, .int .i64 r.1.skip, .int .i64 r.1.red] 24)).cell? ⟨w.heap.size, 5, none⟩ = some (.bool f.gone) := H1.out.1.cell' (i := 5) rfl
        have x6 : (W1.alloc (.cells #[Value.bool r.1.last, .bool r.1.next, .bool r.1.chain, .bool r.1.fin, .bool r.1.forb, .bool r.1.gone, .bool r.1.app, .bool r.1.disc, .int .i64 r.1.skip, .int .i64 r.1.red] 24)).cell? ⟨w.heap.size, 6, none⟩ = some (.bool f.app) := H1.out.1.cell' (i := 6) rfl
        have x7 : (W1.alloc (.cells #[Value.bool r.1.last, .bool r.1.next, .bool r.1.chain, .bool r.1.fin, .bool r.1.forb, .bool r.1.gone, .bool r.1.app, .bool r.1.disc, .int .i64 r.1.skip, .int .i64 r.1.red] 24)).cell? ⟨w.heap.size, 7, none⟩ = some (.bool f.disc) := H1.out.1.cell' (i := 7) rfl
        have x8 : (W1.alloc (.cells #[Value.bool r.1.last, .bool r.1.next, .bool r.1.chain, .bool r.1.fin, .bool r.1.forb, .bool r.1.gone, .bool r.1.app, .bool r.1.disc, .int .i64 r.1.skip, .int .i64 r.1.red] 24)).cell? ⟨w.heap.size, 8, none⟩ = some (.int .i64 f.skip) := H1.out.1.cell' (i := 8) rfl
        have x9 : (W1.alloc (.cells #[Value.bool r.1.last, .bool r.1.next, .bool r.1.chain, .bool r.1.fin, .bool r.1.forb, .bool r.1.gone, .bool r.1.app, .bool r.1.disc, .int .i64 r.1.skip, .int .i64 r.1.red] 24)).cell? ⟨w.heap.size, 9, none⟩ = some (.int .i64 f.red) := H1.out.1.cell' (i := 9) rfl
        go_wp2_with (fail)
        refine (rwith f HT.out.2.2.1 G A k c (by omega) hsz.out _ H1.out.2.2.2).mono ?_
        rintro e W2 ⟨rfl, h2⟩
        rw [← HR.out]
        clear x0 x1 x2 x3 x4 x5 x6 x7 x8 x9
        have y1 := H1.out.2.1.call h2
        have l1 := y1.lt
        have z0 := y1.cell' (i := 0) rfl
        have z1 := y1.cell' (i := 1) rfl
        have z2 := y1.cell' (i := 2) rfl
        have z3 := y1.cell' (i := 3) rfl
        have z4 := y1.cell' (i := 4) rfl
        have z5 := y1.cell' (i := 5) rfl
        have z6 := y1.cell' (i := 6) rfl
        have z7 := y1.cell' (i := 7) rfl
        have z8 := y1.cell' (i := 8) rfl
        have z9 := y1.cell' (i := 9) rfl
        simp only [List.getElem_toArray, List.getElem_cons_zero, List.getElem_cons_succ] at z0 z1 z2 z3 z4 z5 z6 z7 z8 z9
        have hq := fun W => eqFlg r.1 W
        have H2 := Lib.hid (gr_alloc (gr_call H1.out.2.2.1 h2) (.cells #[Value.bool r.1.last, .bool r.1.next, .bool r.1.chain, .bool r.1.fin, .bool r.1.forb, .bool r.1.gone, .bool r.1.app, .bool r.1.disc, .int .i64 r.1.skip, .int .i64 r.1.red] 24))
        clear h2 y1
        go_wp2_with (fail)
        refine (awake _ (HT.out.1.below H2.out (Nat.le_refl _)) (HT.out.2.1.below H2.out (Nat.le_refl _))).mono ?_
        rintro e W5 ⟨rfl, h5⟩
        have H5 := Lib.hid (gr_call H2.out h5)
        clear h5
        go_wp2_with (fail)
        go_ret
        exact ⟨rfl, H5.out⟩
end Go.Proofs.YtlipjagdlpkjpaaDoor
