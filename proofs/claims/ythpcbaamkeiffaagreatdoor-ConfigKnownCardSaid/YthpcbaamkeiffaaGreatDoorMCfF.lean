/-
  Equal configurations are the same: config.Same and what it calls, walked; conditions: sizes.
  config.Same, walked: equal configurations are the same; conditions: sizes.
  The law's shown and fails, waypostkit.SameTexts, walked; the chapter's text, reckoned by the kernel; conditions: sizes, the tables and variables as they are laid.
  config.Check, walked; conditions: numbers are ints; how many directories, rules, routes and segments there are.
-/
import Derived.Deep.RegionWith
import Derived.Laws.EntriesVeiled
import Derived.Test.YthpcbaamkeiffaaGreatDoorMCfW
import Derived.Test.YthpcbaamkeiffaaGreatDoorMCfI
namespace Go.Proofs.YthpcbaamkeiffaaGreatDoor
open Go.RowKit Go.Shelf Go.Joins
set_option linter.unusedVariables false
set_option linter.unusedSimpArgs false

set_option maxRecDepth 100000 in
theorem eqFl (f : Flg) (w : World) : (Op.equalIn 10000 64 (Value.agg #[Value.bool f.last, .bool f.next, .bool f.chain, .bool f.fin, .bool f.forb, .bool f.gone, .bool f.app, .bool f.disc, .int .i64 f.skip, .int .i64 f.red]) (Value.agg #[Value.bool f.last, .bool f.next, .bool f.chain, .bool f.fin, .bool f.forb, .bool f.gone, .bool f.app, .bool f.disc, .int .i64 f.skip, .int .i64 f.red])).run Tryz.prog w = .ok true w := by
  have u3 := Tryz.underlying4
  have a3 := Tryz.isAgg4
  have z3 := Tryz.sizeOf4
  have u4 := Tryz.underlying3
  have a4 := Tryz.isAgg3
  have z4 := Tryz.sizeOf3
  rw [show (10000 : Nat) = 9999 + 1 from rfl, Op.equalIn]
  simp only [Sem.run_bind, run_underlying Tryz.underlying64, Result.andThen_ok]
  go_simp
set_option maxRecDepth 100000 in
theorem eqCd (x : Cd) (w : World) : (Op.equalIn 10000 68 (.agg #[.string x.t, .bool x.no, .string x.p, .bool x.nc, .bool x.orr]) (.agg #[.string x.t, .bool x.no, .string x.p, .bool x.nc, .bool x.orr])).run Tryz.prog w = .ok true w := by
  have u3 := Tryz.underlying4
  have a3 := Tryz.isAgg4
  have z3 := Tryz.sizeOf4
  have u4 := Tryz.underlying9
  have a4 := Tryz.isAgg9
  have z4 := Tryz.sizeOf9
  rw [show (10000 : Nat) = 9999 + 1 from rfl, Op.equalIn]
  simp only [Sem.run_bind, run_underlying Tryz.underlying68, Result.andThen_ok]
  go_simp
/-- Returns true, and makes new memory alone. -/
def TrueP (w : World) (e : Ending) (W : World) : Prop := e = .returned (.bool true) ∧ Below w.heap.size w W
set_option maxRecDepth 100000 in
set_option maxHeartbeats 4000000 in
theorem equal_cds (l : List Cd) (hl : l.length ≤ 1000000) (v u : Value) (w : World) (hv : CondsIn w v l) (hu : CondsIn w u l) :
    Calls Tryz.prog 43 #[v, u] w (TrueP w) := by
  obtain ⟨A, c, us, rfl, _, hus, hA, _⟩ := hv
  obtain ⟨B, d, vs, rfl, _, hvs, hB, _⟩ := hu
  obtain ⟨n, hn⟩ : ∃ n, n = l.length := ⟨_, rfl⟩
  rw [← hn] at hl ⊢
  rw [← hn] at hA hB
  have H := Lib.hid (And.intro hA (And.intro hB (And.intro hn (And.intro hus hvs))))
  clear hA hB hn hus hvs
  go_enter Tryz.func43, Tryz.ntmps43
  go_wp2_with (fail)
  go_loopw [13] (fun i wr => Below w.heap.size w wr ∧ ∃ k : Nat, k ≤ n ∧ i = .int .i64 (k : Int)) (fun i _ => n - (intOf i).toNat)
  case atStart => exact ⟨Below.refl _ _, 0, Nat.zero_le _, rfl⟩
  case round =>
    obtain ⟨hbel, k, hk, rfl⟩ := hrel
    have HB := Lib.hid hbel
    clear hbel
    by_cases hlt : k < n
    · have hki : (k : Int) < n := by omega
      obtain ⟨ab, ao, x, rfl, hab, hx, c0, c1, c2, c3, c4⟩ := cells_cd (H.out.1.below HB.out) H.out.2.2.1 H.out.2.2.2.1 hlt
      obtain ⟨bb, bo, y, rfl, hbb, hy, d0, d1, d2, d3, d4⟩ := cells_cd (H.out.2.1.below HB.out) H.out.2.2.1 H.out.2.2.2.2 hlt
      obtain rfl : x = y := Option.some.inj (hx.symm.trans hy)
      have hq := fun W => eqCd x W
      clear hx hy
      go_wp2_with (fail)
      go_quiet (fail)
      go_wp2_with (fail)
      exact ⟨⟨below_drewN HB.out _, k + 1, by omega, by go_num⟩, by simp [intOf]; omega⟩
    · obtain rfl : k = n := by omega
      go_wp2_with (fail)
      go_ret
      exact ⟨rfl, HB.out⟩
set_option maxRecDepth 100000 in
set_option maxHeartbeats 4000000 in
theorem rule_eq (x : Ru) (u v : Value) (hl : x.cds.length ≤ 1000000) (w : World) (hu : CondsIn w u x.cds) (hv : CondsIn w v x.cds) :
    Calls Tryz.prog 42 #[.agg #[.string x.p, .bool x.nc, u, .string x.tg, .bool x.fl.last, .bool x.fl.next, .bool x.fl.chain, .bool x.fl.fin, .bool x.fl.forb, .bool x.fl.gone, .bool x.fl.app, .bool x.fl.disc, .int .i64 x.fl.skip, .int .i64 x.fl.red], .agg #[.string x.p, .bool x.nc, v, .string x.tg, .bool x.fl.last, .bool x.fl.next, .bool x.fl.chain, .bool x.fl.fin, .bool x.fl.forb, .bool x.fl.gone, .bool x.fl.app, .bool x.fl.disc, .int .i64 x.fl.skip, .int .i64 x.fl.red]] w (TrueP w) := by
  have hb : Below w.heap.size w ((w.alloc (.cells #[.string x.p, .bool x.nc, u, .string x.tg, .bool x.fl.last, .bool x.fl.next, .bool x.fl.chain, .bool x.fl.fin, .bool x.fl.forb, .bool x.fl.gone, .bool x.fl.app, .bool x.fl.disc, .int .i64 x.fl.skip, .int .i64 x.fl.red] 66)).alloc (.cells #[.string x.p, .bool x.nc, v, .string x.tg, .bool x.fl.last, .bool x.fl.next, .bool x.fl.chain, .bool x.fl.fin, .bool x.fl.forb, .bool x.fl.gone, .bool x.fl.app, .bool x.fl.disc, .int .i64 x.fl.skip, .int .i64 x.fl.red] 66)) := gr_alloc (gr_alloc (Below.refl _ _) _) _
  have hcall := equal_cds x.cds hl u v ((w.alloc (.cells #[.string x.p, .bool x.nc, u, .string x.tg, .bool x.fl.last, .bool x.fl.next, .bool x.fl.chain, .bool x.fl.fin, .bool x.fl.forb, .bool x.fl.gone, .bool x.fl.app, .bool x.fl.disc, .int .i64 x.fl.skip, .int .i64 x.fl.red] 66)).alloc (.cells #[.string x.p, .bool x.nc, v, .string x.tg, .bool x.fl.last, .bool x.fl.next, .bool x.fl.chain, .bool x.fl.fin, .bool x.fl.forb, .bool x.fl.gone, .bool x.fl.app, .bool x.fl.disc, .int .i64 x.fl.skip, .int .i64 x.fl.red] 66)) (hu.below (gr_alloc (gr_alloc (Below.refl _ _) _) _)) (hv.below (gr_alloc (gr_alloc (Below.refl _ _) _) _))
  have hq := fun W => eqFl x.fl W
  clear hu hv
  have H := Lib.hid hb
  clear hb
  go_enter Tryz.func42, Tryz.ntmps42
  go_wp2_with (fail)
  refine hcall.mono ?_
  rintro e W1 ⟨rfl, h1⟩
  clear hcall
  have Z := Lib.hid (gr_call H.out h1)
  clear h1
  go_wp2_with (fail)
  go_ret
  exact ⟨rfl, Z.out⟩
set_option maxRecDepth 100000 in
set_option maxHeartbeats 4000000 in
theorem equal_rus (xs : List Ru) (hl : xs.length ≤ 1000000) (hc : ∀ x ∈ xs, x.cds.length ≤ 1000000) (va vb : Value) (w : World) (hv : RulesIn w va xs) (hu : RulesIn w vb xs) :
    Calls Tryz.prog 45 #[va, vb, .func (.func 42) #[] #[]] w (TrueP w) := by
  obtain ⟨A, c, us, rfl, _, hus, hA, hAi⟩ := hv
  obtain ⟨B, d, vs, rfl, _, hvs, hB, hBi⟩ := hu
  obtain ⟨n, hn⟩ : ∃ n, n = xs.length := ⟨_, rfl⟩
  rw [← hn] at hl ⊢
  rw [← hn] at hA hB
  have H := Lib.hid (And.intro hA (And.intro hB (And.intro hn (And.intro hus (And.intro hvs (And.intro hAi hBi))))))
  clear hA hB hn hus hvs hAi hBi
  go_enter Tryz.func45, Tryz.ntmps45
  go_wp2_with (fail)
  go_loopw [17] (fun i wr => Below w.heap.size w wr ∧ ∃ k : Nat, k ≤ n ∧ i = .int .i64 (k : Int)) (fun i _ => n - (intOf i).toNat)
  case atStart => exact ⟨Below.refl _ _, 0, Nat.zero_le _, rfl⟩
  case round =>
    obtain ⟨hbel, k, hk, rfl⟩ := hrel
    have HB := Lib.hid hbel
    clear hbel
    by_cases hlt : k < n
    · have hki : (k : Int) < n := by omega
      obtain ⟨ab, ao, x, u, rfl, hab, hx, hxu, c0, c1, c2, c3, c4, c5, c6, c7, c8, c9, c10, c11, c12, c13⟩ := cells_ru (H.out.1.below HB.out) H.out.2.2.1 H.out.2.2.2.1 hlt
      obtain ⟨bb, bo, y, v, rfl, hbb, hy, hyv, d0, d1, d2, d3, d4, d5, d6, d7, d8, d9, d10, d11, d12, d13⟩ := cells_ru (H.out.2.1.below HB.out) H.out.2.2.1 H.out.2.2.2.2.1 hlt
      obtain rfl : x = y := Option.some.inj (hx.symm.trans hy)
      have hiu := H.out.2.2.2.2.2.1 k x u hx hxu
      have hiv := H.out.2.2.2.2.2.2 k x v hy hyv
      obtain ⟨uA, ue, uc, rfl⟩ : ∃ A n c, u = .slice A n c := (by obtain ⟨A, c, e⟩ := InL.slice hiu; exact ⟨A, _, c, e⟩)
      obtain ⟨vA, ve, vc, rfl⟩ : ∃ A n c, v = .slice A n c := (by obtain ⟨A, c, e⟩ := InL.slice hiv; exact ⟨A, _, c, e⟩)
      have hb2 : Below wr.heap.size wr ((wr.alloc (.cells #[.string x.p, .bool x.nc, .slice uA ue uc, .string x.tg, .bool x.fl.last, .bool x.fl.next, .bool x.fl.chain, .bool x.fl.fin, .bool x.fl.forb, .bool x.fl.gone, .bool x.fl.app, .bool x.fl.disc, .int .i64 x.fl.skip, .int .i64 x.fl.red] 66)).alloc (.cells #[.string x.p, .bool x.nc, .slice vA ve vc, .string x.tg, .bool x.fl.last, .bool x.fl.next, .bool x.fl.chain, .bool x.fl.fin, .bool x.fl.forb, .bool x.fl.gone, .bool x.fl.app, .bool x.fl.disc, .int .i64 x.fl.skip, .int .i64 x.fl.red] 66)) := gr_alloc (gr_alloc (Below.refl _ _) _) _
      have hbw := gr_call HB.out hb2
      have hcall := rule_eq x _ _ (hc x (List.mem_of_getElem? hx)) _ (hiu.below hbw) (hiv.below hbw)
      have G := Lib.hid hbw
      clear hx hxu hy hyv hb2 hbw hiu hiv
      go_wp2_with (fail)
      refine hcall.mono ?_
      rintro e W1 ⟨rfl, h1⟩
      clear hcall
      have Z := Lib.hid (gr_call G.out h1)
      clear h1
      go_wp2_with (fail)
      exact ⟨⟨Z.out, k + 1, by omega, by go_num⟩, by simp [intOf]; omega⟩
    · obtain rfl : k = n := by omega
      go_wp2_with (fail)
      go_ret
      exact ⟨rfl, HB.out⟩
set_option maxRecDepth 100000 in
set_option maxHeartbeats 4000000 in
theorem dir_eq (x : Dr) (u v : Value) (hl : x.rus.length ≤ 1000000) (hc : ∀ y ∈ x.rus, y.cds.length ≤ 1000000) (w : World) (hu : RulesIn w u x.rus) (hv : RulesIn w v x.rus) (b : Nat) (hB : Blk w b 94 #[.func (.func 42) #[] #[]]) :
    Calls Tryz.prog 44 #[.agg #[.string x.path, .int .i64 x.mode, u], .agg #[.string x.path, .int .i64 x.mode, v], .pointer (some ⟨b, 0, none⟩)] w (TrueP w) := by
  have hb : Below w.heap.size w ((w.alloc (.cells #[.string x.path, .int .i64 x.mode, u] 48)).alloc (.cells #[.string x.path, .int .i64 x.mode, v] 48)) := gr_alloc (gr_alloc (Below.refl _ _) _) _
  have hcall := equal_rus x.rus hl hc u v ((w.alloc (.cells #[.string x.path, .int .i64 x.mode, u] 48)).alloc (.cells #[.string x.path, .int .i64 x.mode, v] 48)) (hu.below (gr_alloc (gr_alloc (Below.refl _ _) _) _)) (hv.below (gr_alloc (gr_alloc (Below.refl _ _) _) _))
  have f0 : w.cell? ⟨b, 0, none⟩ = some (.func (.func 42) #[] #[]) := hB.cell' (i := 0) rfl
  have fl := hB.lt
  obtain ⟨uA, ue, uc, rfl⟩ : ∃ A n c, u = .slice A n c := (by obtain ⟨A, c, e⟩ := InL.slice hu; exact ⟨A, _, c, e⟩)
  obtain ⟨vA, ve, vc, rfl⟩ : ∃ A n c, v = .slice A n c := (by obtain ⟨A, c, e⟩ := InL.slice hv; exact ⟨A, _, c, e⟩)
  clear hu hv hB
  have H := Lib.hid hb
  clear hb
  go_enter Tryz.func44, Tryz.ntmps44
  go_wp2_with (fail)
  refine hcall.mono ?_
  rintro e W1 ⟨rfl, h1⟩
  clear hcall
  have Z := Lib.hid (gr_call H.out h1)
  clear h1
  go_wp2_with (fail)
  go_ret
  exact ⟨rfl, Z.out⟩
set_option maxRecDepth 100000 in
set_option maxHeartbeats 4000000 in
theorem equal_drs (xs : List Dr) (hl : xs.length ≤ 1000000) (hc : ∀ x ∈ xs, x.rus.length ≤ 1000000 ∧ ∀ y ∈ x.rus, y.cds.length ≤ 1000000) (va vb : Value) (b : Nat) (w : World) (hv : DirsIn w va xs) (hu : DirsIn w vb xs) (hF : Blk w b 94 #[.func (.func 42) #[] #[]]) :
    Calls Tryz.prog 48 #[va, vb, .func (.func 44) #[] #[.pointer (some ⟨b, 0, none⟩)]] w (TrueP w) := by
  obtain ⟨A, c, us, rfl, _, hus, hA, hAi⟩ := hv
  obtain ⟨B, d, vs, rfl, _, hvs, hB, hBi⟩ := hu
  obtain ⟨n, hn⟩ : ∃ n, n = xs.length := ⟨_, rfl⟩
  rw [← hn] at hl ⊢
  rw [← hn] at hA hB
  have H := Lib.hid (And.intro hA (And.intro hB (And.intro hn (And.intro hus (And.intro hvs (And.intro hAi hBi))))))
  clear hA hB hn hus hvs hAi hBi
  go_enter Tryz.func48, Tryz.ntmps48
  go_wp2_with (fail)
  go_loopw [17] (fun i wr => Below w.heap.size w wr ∧ ∃ k : Nat, k ≤ n ∧ i = .int .i64 (k : Int)) (fun i _ => n - (intOf i).toNat)
  case atStart => exact ⟨Below.refl _ _, 0, Nat.zero_le _, rfl⟩
  case round =>
    obtain ⟨hbel, k, hk, rfl⟩ := hrel
    have HB := Lib.hid hbel
    clear hbel
    by_cases hlt : k < n
    · have hki : (k : Int) < n := by omega
      obtain ⟨ab, ao, x, u, rfl, hab, hx, hxu, c0, c1, c2⟩ := cells_dr (H.out.1.below HB.out) H.out.2.2.1 H.out.2.2.2.1 hlt
      obtain ⟨bb, bo, y, v, rfl, hbb, hy, hyv, d0, d1, d2⟩ := cells_dr (H.out.2.1.below HB.out) H.out.2.2.1 H.out.2.2.2.2.1 hlt
      obtain rfl : x = y := Option.some.inj (hx.symm.trans hy)
      have hiu := H.out.2.2.2.2.2.1 k x u hx hxu
      have hiv := H.out.2.2.2.2.2.2 k x v hy hyv
      obtain ⟨uA, ue, uc, rfl⟩ : ∃ A n c, u = .slice A n c := (by obtain ⟨A, c, e⟩ := InL.slice hiu; exact ⟨A, _, c, e⟩)
      obtain ⟨vA, ve, vc, rfl⟩ : ∃ A n c, v = .slice A n c := (by obtain ⟨A, c, e⟩ := InL.slice hiv; exact ⟨A, _, c, e⟩)
      have hb2 : Below wr.heap.size wr ((wr.alloc (.cells #[.string x.path, .int .i64 x.mode, .slice uA ue uc] 48)).alloc (.cells #[.string x.path, .int .i64 x.mode, .slice vA ve vc] 48)) := gr_alloc (gr_alloc (Below.refl _ _) _) _
      have hbw := gr_call HB.out hb2
      have hcall := dir_eq x _ _ (hc x (List.mem_of_getElem? hx)).1 (hc x (List.mem_of_getElem? hx)).2 _ (hiu.below hbw) (hiv.below hbw) b (hF.call hbw)
      have G := Lib.hid hbw
      clear hx hxu hy hyv hb2 hbw hiu hiv
      go_wp2_with (fail)
      refine hcall.mono ?_
      rintro e W1 ⟨rfl, h1⟩
      clear hcall
      have Z := Lib.hid (gr_call G.out h1)
      clear h1
      go_wp2_with (fail)
      exact ⟨⟨Z.out, k + 1, by omega, by go_num⟩, by simp [intOf]; omega⟩
    · obtain rfl : k = n := by omega
      go_wp2_with (fail)
      go_ret
      exact ⟨rfl, HB.out⟩
theorem equal_txs (l : List ByteArray) (hl : l.length ≤ 1000000) (v u : Value) (w : World) (hv : TextsIn w v l) (hu : TextsIn w u l) :
    Calls Tryz.prog 47 #[v, u] w (TrueP w) := by
  obtain ⟨A, c, rfl, _, hA⟩ := hv
  obtain ⟨B, d, rfl, _, hB⟩ := hu
  by_cases h0 : l.length = 0
  · rw [h0]
    refine (Tryz.slices_Equal_string_empty A B c 0 d w (by decide)).mono ?_
    rintro e W ⟨rfl, rfl⟩
    exact ⟨rfl, Below.refl _ _⟩
  · obtain ⟨ab, ao, rfl, hab, hca⟩ := hA (by omega)
    obtain ⟨bb, bo, rfl, hbb, hcb⟩ := hB (by omega)
    have key : ∀ (b o : Nat), (∀ i j, i < l.length → j < 1 → w.cell? ⟨b, o + i * 1 + j, none⟩ = some (txAt l i j)) → ∀ j, j < l.length → w.cell? ⟨b, o + j, none⟩ = some (.string (l.getD j ByteArray.empty)) := by
      intro b o hc j hj
      have h := hc j 0 hj (by decide)
      rw [Nat.mul_one, Nat.add_zero] at h
      rw [h]
      unfold txAt
      rw [List.getD_eq_getElem?_getD, List.getElem?_eq_getElem hj]; rfl
    refine (Tryz.slices_Equal_string ab ao l.length c bb bo l.length d l l w (Nat.le_refl _) (Nat.le_refl _) (by omega) (by omega) (key _ _ hca) (key _ _ hcb)).mono ?_
    rintro e W ⟨rfl, q, rfl⟩
    exact ⟨by simp, below_drewN (Below.refl _ _) _⟩
set_option maxRecDepth 100000 in
set_option maxHeartbeats 4000000 in
theorem route_eq (x : Ro) (u v : Value) (hl : x.seg.length ≤ 1000000) (w : World) (hu : TextsIn w u x.seg) (hv : TextsIn w v x.seg) :
    Calls Tryz.prog 46 #[.agg #[u, .int .i64 x.kind, .string x.txt], .agg #[v, .int .i64 x.kind, .string x.txt]] w (TrueP w) := by
  have hb : Below w.heap.size w ((w.alloc (.cells #[u, .int .i64 x.kind, .string x.txt] 70)).alloc (.cells #[v, .int .i64 x.kind, .string x.txt] 70)) := gr_alloc (gr_alloc (Below.refl _ _) _) _
  have hcall := equal_txs x.seg hl u v ((w.alloc (.cells #[u, .int .i64 x.kind, .string x.txt] 70)).alloc (.cells #[v, .int .i64 x.kind, .string x.txt] 70)) (hu.below (gr_alloc (gr_alloc (Below.refl _ _) _) _)) (hv.below (gr_alloc (gr_alloc (Below.refl _ _) _) _))
  clear hu hv
  have H := Lib.hid hb
  clear hb
  go_enter Tryz.func46, Tryz.ntmps46
  go_wp2_with (fail)
  refine hcall.mono ?_
  rintro e W1 ⟨rfl, h1⟩
  clear hcall
  have Z := Lib.hid (gr_call H.out h1)
  clear h1
  go_wp2_with (fail)
  go_ret
  exact ⟨rfl, Z.out⟩
set_option maxRecDepth 100000 in
set_option maxHeartbeats 4000000 in
theorem equal_ros (xs : List Ro) (hl : xs.length ≤ 1000000) (hc : ∀ x ∈ xs, x.seg.length ≤ 1000000) (va vb : Value) (w : World) (hv : RoutesIn w va xs) (hu : RoutesIn w vb xs) :
    Calls Tryz.prog 49 #[va, vb, .func (.func 46) #[] #[]] w (TrueP w) := by
  obtain ⟨A, c, us, rfl, _, hus, hA, hAi⟩ := hv
  obtain ⟨B, d, vs, rfl, _, hvs, hB, hBi⟩ := hu
  obtain ⟨n, hn⟩ : ∃ n, n = xs.length := ⟨_, rfl⟩
  rw [← hn] at hl ⊢
  rw [← hn] at hA hB
  have H := Lib.hid (And.intro hA (And.intro hB (And.intro hn (And.intro hus (And.intro hvs (And.intro hAi hBi))))))
  clear hA hB hn hus hvs hAi hBi
  go_enter Tryz.func49, Tryz.ntmps49
  go_wp2_with (fail)
  go_loopw [17] (fun i wr => Below w.heap.size w wr ∧ ∃ k : Nat, k ≤ n ∧ i = .int .i64 (k : Int)) (fun i _ => n - (intOf i).toNat)
  case atStart => exact ⟨Below.refl _ _, 0, Nat.zero_le _, rfl⟩
  case round =>
    obtain ⟨hbel, k, hk, rfl⟩ := hrel
    have HB := Lib.hid hbel
    clear hbel
    by_cases hlt : k < n
    · have hki : (k : Int) < n := by omega
      obtain ⟨ab, ao, x, u, rfl, hab, hx, hxu, c0, c1, c2⟩ := cells_ro (H.out.1.below HB.out) H.out.2.2.1 H.out.2.2.2.1 hlt
      obtain ⟨bb, bo, y, v, rfl, hbb, hy, hyv, d0, d1, d2⟩ := cells_ro (H.out.2.1.below HB.out) H.out.2.2.1 H.out.2.2.2.2.1 hlt
      obtain rfl : x = y := Option.some.inj (hx.symm.trans hy)
      have hiu := H.out.2.2.2.2.2.1 k x u hx hxu
      have hiv := H.out.2.2.2.2.2.2 k x v hy hyv
      obtain ⟨uA, ue, uc, rfl⟩ : ∃ A n c, u = .slice A n c := (by obtain ⟨A, c, e, _⟩ := hiu.1; exact ⟨A, _, c, e⟩)
      obtain ⟨vA, ve, vc, rfl⟩ : ∃ A n c, v = .slice A n c := (by obtain ⟨A, c, e, _⟩ := hiv.1; exact ⟨A, _, c, e⟩)
      have hb2 : Below wr.heap.size wr ((wr.alloc (.cells #[.slice uA ue uc, .int .i64 x.kind, .string x.txt] 70)).alloc (.cells #[.slice vA ve vc, .int .i64 x.kind, .string x.txt] 70)) := gr_alloc (gr_alloc (Below.refl _ _) _) _
      have hbw := gr_call HB.out hb2
      have hcall := route_eq x _ _ (hc x (List.mem_of_getElem? hx)) _ (hiu.1.below hbw) (hiv.1.below hbw)
      have G := Lib.hid hbw
      clear hx hxu hy hyv hb2 hbw hiu hiv
      go_wp2_with (fail)
      refine hcall.mono ?_
      rintro e W1 ⟨rfl, h1⟩
      clear hcall
      have Z := Lib.hid (gr_call G.out h1)
      clear h1
      go_wp2_with (fail)
      exact ⟨⟨Z.out, k + 1, by omega, by go_num⟩, by simp [intOf]; omega⟩
    · obtain rfl : k = n := by omega
      go_wp2_with (fail)
      go_ret
      exact ⟨rfl, HB.out⟩
end Go.Proofs.YthpcbaamkeiffaaGreatDoor
namespace Go.Proofs.YthpcbaamkeiffaaGreatDoor
open Go.RowKit Go.Shelf Go.Joins
set_option linter.unusedVariables false
set_option linter.unusedSimpArgs false

/-- Lists of a bearable length. -/
structure CfSz (c : Cf) : Prop where
  dirs : c.dirs.length ≤ 1000000
  ros : c.ros.length ≤ 1000000
  rus : ∀ x ∈ c.dirs, x.rus.length ≤ 1000000 ∧ ∀ y ∈ x.rus, y.cds.length ≤ 1000000
  seg : ∀ x ∈ c.ros, x.seg.length ≤ 1000000
set_option maxRecDepth 100000 in
set_option maxHeartbeats 4000000 in
theorem same_code (c : Cf) (hz : CfSz c) (va vb : Value) (w : World) (ha : CfIn w va c) (hb : CfIn w vb c) : Calls Tryz.prog 13 #[va, vb] w (TrueP w) := by
  obtain ⟨d, r, rfl, hd, hr⟩ := ha
  obtain ⟨d2, r2, rfl, hd2, hr2⟩ := hb
  obtain ⟨dA, dc, rfl⟩ := InL.slice hd
  obtain ⟨rA, rc, rfl⟩ := InL.slice hr
  obtain ⟨eA, ec, rfl⟩ := InL.slice hd2
  obtain ⟨sA, sc, rfl⟩ := InL.slice hr2
  obtain ⟨nd, hnd⟩ : ∃ k, k = c.dirs.length := ⟨_, rfl⟩
  obtain ⟨nr, hnr⟩ : ∃ k, k = c.ros.length := ⟨_, rfl⟩
  rw [← hnd] at hd hd2 ⊢
  rw [← hnr] at hr hr2 ⊢
  have hb3 : Below w.heap.size w (((w.alloc (.cells #[.int .i64 c.cap, .int .i64 c.lim, .slice dA nd dc, .slice rA nr rc] 27)).alloc (.cells #[.int .i64 c.cap, .int .i64 c.lim, .slice eA nd ec, .slice sA nr sc] 27)).alloc (.cells #[.func (.func 42) #[] #[]] 94)) := gr_alloc (gr_alloc (gr_alloc (Below.refl _ _) _) _) _
  have hF : Blk (((w.alloc (.cells #[.int .i64 c.cap, .int .i64 c.lim, .slice dA nd dc, .slice rA nr rc] 27)).alloc (.cells #[.int .i64 c.cap, .int .i64 c.lim, .slice eA nd ec, .slice sA nr sc] 27)).alloc (.cells #[.func (.func 42) #[] #[]] 94)) (w.heap.size + 2) 94 #[.func (.func 42) #[] #[]] := blk_at (by simp)
  have h1 := equal_drs c.dirs hz.dirs hz.rus _ _ (w.heap.size + 2) (((w.alloc (.cells #[.int .i64 c.cap, .int .i64 c.lim, .slice dA nd dc, .slice rA nr rc] 27)).alloc (.cells #[.int .i64 c.cap, .int .i64 c.lim, .slice eA nd ec, .slice sA nr sc] 27)).alloc (.cells #[.func (.func 42) #[] #[]] 94)) (hd.below hb3) (hd2.below hb3) hF
  have h2 := fun W (hW : Below w.heap.size w W) => equal_ros c.ros hz.ros hz.seg _ _ W (hr.below hW) (hr2.below hW)
  have H := Lib.hid (And.intro hb3 h2)
  clear hd hd2 hr hr2 hnd hnr hb3 hF hz h2
  go_enter Tryz.func13, Tryz.ntmps13
  go_wp2_with (fail)
  refine h1.mono ?_
  rintro e W1 ⟨rfl, hW1⟩
  clear h1
  have Z := Lib.hid (gr_call H.out.1 hW1)
  have ka : Blk W1 w.heap.size 27 #[.int .i64 c.cap, .int .i64 c.lim, .slice dA nd dc, .slice rA nr rc] := ((((Blk.new _ _ _).alloc _).alloc _)).call hW1
  have kb : Blk W1 (w.heap.size + 1) 27 #[.int .i64 c.cap, .int .i64 c.lim, .slice eA nd ec, .slice sA nr sc] := (Blk.alloc (blk_at (by simp)) _).call hW1
  have a3 : W1.cell? ⟨w.heap.size, 3, none⟩ = some (.slice rA nr rc) := ka.cell' (i := 3) rfl
  have b3 : W1.cell? ⟨w.heap.size + 1, 3, none⟩ = some (.slice sA nr sc) := kb.cell' (i := 3) rfl
  clear hW1 ka kb
  have h2 := H.out.2 W1 Z.out
  go_wp2_with (fail)
  refine h2.mono ?_
  rintro e W3 ⟨rfl, hW3⟩
  have Z3 := Lib.hid (gr_call Z.out hW3)
  clear h2 hW3 a3 b3
  go_wp2_with (fail)
  go_ret
  exact ⟨rfl, Z3.out⟩
end Go.Proofs.YthpcbaamkeiffaaGreatDoor
namespace Go.Proofs.YthpcbaamkeiffaaGreatDoor
open Go.RowKit Go.Shelf Go.Joins
set_option linter.unusedVariables false
set_option linter.unusedSimpArgs false

instance : DecidableEq Rd := fun a b => decidable_of_iff (a.c = b.c ∧ a.cds = b.cds ∧ a.pl = b.pl) ⟨fun ⟨h1, h2, h3⟩ => by cases a; cases b; simp_all, fun h => by subst h; exact ⟨rfl, rfl, rfl⟩⟩
/-! The chapter's configuration. -/
def shRu : Ru := ⟨⟨#[94, 47, 97, 36]⟩, false, [], ⟨#[47, 98]⟩, ⟨true, false, false, false, false, false, false, false, 0, 0⟩⟩
def shDr : Dr := ⟨⟨#[47]⟩, 0, [shRu]⟩
def shCf : Cf := ⟨9, 5, [shDr], []⟩
def shT : ByteArray := ⟨#[99, 97, 112, 32, 57, 10, 108, 105, 109, 105, 116, 32, 53, 10, 100, 105, 114, 32, 47, 32, 97, 108, 111, 110, 101, 10, 114, 117, 108, 101, 32, 94, 47, 97, 36, 32, 47, 98, 32, 91, 76, 93, 10]⟩
theorem sh_text : cfText shCf = (some shT.data.toList, 0) := by decide +kernel
theorem sh_whole : wholeRd shT = (some ⟨shCf, [], [26]⟩, 0, 0) := by decide +kernel
theorem cap9 : (wholeRd ⟨#[99, 97, 112, 32, 57]⟩).2 = (8, 5) := by decide +kernel
def shRC : Array Value := #[.string ⟨#[94, 47, 97, 36]⟩, .bool false, .slice none 0 0, .string ⟨#[47, 98]⟩, .bool true, .bool false, .bool false, .bool false, .bool false, .bool false, .bool false, .bool false, .int .i64 0, .int .i64 0]
/-- What shown hands back. -/
def ShP (w : World) (e : Ending) (W : World) : Prop := ∃ gr gd, e = .returned (.agg #[.int .i64 9, .int .i64 5, .slice (some ⟨gd, 0, none⟩) 1 1, .slice none 0 0]) ∧ Blk W gr 66 shRC ∧ Blk W gd 48 #[.string ⟨#[47]⟩, .int .i64 0, .slice (some ⟨gr, 0, none⟩) 1 1] ∧ Below w.heap.size w W
theorem one_in {α : Type} {m : Nat} {cell : α → Value → List Value} {inner : World → α → Value → Prop} {W : World} {T : TypeId} {g : Nat} {cs : Array Value} {x : α} {u : Value} (hb : Blk W g T cs) (hc : ∀ j c, j < m → (cell x u)[j]? = some c → cs[j]? = some c) (hl : (cell x u).length = m) (hi : inner W x u) : InL m cell inner W (.slice (some ⟨g, 0, none⟩) 1 1) [x] := by
  refine ⟨some ⟨g, 0, none⟩, 1, [u], rfl, (fun h => absurd h (by simp)), rfl, fun _ => ⟨g, 0, rfl, hb.lt, fun i j hi' hj => ?_⟩, fun i y v hy hv => ?_⟩
  · have hi0 : i = 0 := by simp at hi'; omega
    subst hi0
    rw [Nat.zero_mul, Nat.add_zero, Nat.zero_add]
    unfold atL
    show _ = some (((cell x u)[j]?).getD _)
    have : (cell x u)[j]? = some ((cell x u)[j]'(by omega)) := List.getElem?_eq_getElem _
    rw [this]
    exact hb.cell' (hc j _ hj this)
  · have hi0 : i = 0 := by have := (List.getElem?_eq_some_iff.1 hy).1; simp at this; exact this
    subst hi0
    cases hy; cases hv
    exact hi
theorem sh_in {w W : World} {gr gd : Nat} (h1 : Blk W gr 66 shRC) (h2 : Blk W gd 48 #[.string ⟨#[47]⟩, .int .i64 0, .slice (some ⟨gr, 0, none⟩) 1 1]) : CfIn W (.agg #[.int .i64 9, .int .i64 5, .slice (some ⟨gd, 0, none⟩) 1 1, .slice none 0 0]) shCf := by
  refine ⟨_, _, rfl, ?_, InL.nil _ _⟩
  refine one_in (x := shDr) (u := .slice (some ⟨gr, 0, none⟩) 1 1) h2 ?_ rfl ?_
  · intro j c hj hc
    match j, hj, hc with
    | 0, _, hc => cases hc; rfl
    | 1, _, hc => cases hc; rfl
    | 2, _, hc => cases hc; rfl
  · refine one_in (x := shRu) (u := .slice none 0 0) h1 ?_ rfl (InL.nil _ _)
    intro j c hj hc
    match j, hj, hc with
    | 0, _, hc => cases hc; rfl
    | 1, _, hc => cases hc; rfl
    | 2, _, hc => cases hc; rfl
    | 3, _, hc => cases hc; rfl
    | 4, _, hc => cases hc; rfl
    | 5, _, hc => cases hc; rfl
    | 6, _, hc => cases hc; rfl
    | 7, _, hc => cases hc; rfl
    | 8, _, hc => cases hc; rfl
    | 9, _, hc => cases hc; rfl
    | 10, _, hc => cases hc; rfl
    | 11, _, hc => cases hc; rfl
    | 12, _, hc => cases hc; rfl
    | 13, _, hc => cases hc; rfl
set_option maxRecDepth 100000 in
set_option maxHeartbeats 4000000 in
theorem shown_code (w : World) : Calls Tryz.prog 31 #[] w (ShP w) := by
  obtain ⟨post, hpost⟩ : ∃ p, p = ShP w := ⟨_, rfl⟩
  rw [← hpost]
  have HP := Lib.hid hpost
  clear hpost
  go_enter Tryz.func31, Tryz.ntmps31
  go_wp2_with (fail)
  have hb : Below w.heap.size w (((w.alloc (.cells #[.int .i64 9, .int .i64 5, .slice (some ⟨w.heap.size + 1 + 1, 0, none⟩) 1 1, .slice none 0 0] 27)).alloc (.cells #[.string ⟨#[94, 47, 97, 36]⟩, .bool false, .slice none 0 0, .string ⟨#[47, 98]⟩, .bool true, .bool false, .bool false, .bool false, .bool false, .bool false, .bool false, .bool false, .int .i64 0, .int .i64 0] 66)).alloc (.cells #[.string ⟨#[47]⟩, .int .i64 0, .slice (some ⟨w.heap.size + 1, 0, none⟩) 1 1] 48)) := gr_alloc (gr_alloc (gr_alloc (Below.refl _ _) _) _) _
  have h0 : Blk (((w.alloc (.cells #[.int .i64 9, .int .i64 5, .slice (some ⟨w.heap.size + 1 + 1, 0, none⟩) 1 1, .slice none 0 0] 27)).alloc (.cells #[.string ⟨#[94, 47, 97, 36]⟩, .bool false, .slice none 0 0, .string ⟨#[47, 98]⟩, .bool true, .bool false, .bool false, .bool false, .bool false, .bool false, .bool false, .bool false, .int .i64 0, .int .i64 0] 66)).alloc (.cells #[.string ⟨#[47]⟩, .int .i64 0, .slice (some ⟨w.heap.size + 1, 0, none⟩) 1 1] 48)) w.heap.size 27 #[.int .i64 9, .int .i64 5, .slice (some ⟨w.heap.size + 1 + 1, 0, none⟩) 1 1, .slice none 0 0] := ((Blk.new _ _ _).alloc _).alloc _
  have h1 : Blk (((w.alloc (.cells #[.int .i64 9, .int .i64 5, .slice (some ⟨w.heap.size + 1 + 1, 0, none⟩) 1 1, .slice none 0 0] 27)).alloc (.cells #[.string ⟨#[94, 47, 97, 36]⟩, .bool false, .slice none 0 0, .string ⟨#[47, 98]⟩, .bool true, .bool false, .bool false, .bool false, .bool false, .bool false, .bool false, .bool false, .int .i64 0, .int .i64 0] 66)).alloc (.cells #[.string ⟨#[47]⟩, .int .i64 0, .slice (some ⟨w.heap.size + 1, 0, none⟩) 1 1] 48)) (w.heap.size + 1) 66 shRC := Blk.alloc (blk_at (by simp [shRC])) _
  have h2 : Blk (((w.alloc (.cells #[.int .i64 9, .int .i64 5, .slice (some ⟨w.heap.size + 1 + 1, 0, none⟩) 1 1, .slice none 0 0] 27)).alloc (.cells #[.string ⟨#[94, 47, 97, 36]⟩, .bool false, .slice none 0 0, .string ⟨#[47, 98]⟩, .bool true, .bool false, .bool false, .bool false, .bool false, .bool false, .bool false, .bool false, .int .i64 0, .int .i64 0] 66)).alloc (.cells #[.string ⟨#[47]⟩, .int .i64 0, .slice (some ⟨w.heap.size + 1, 0, none⟩) 1 1] 48)) (w.heap.size + 1 + 1) 48 #[.string ⟨#[47]⟩, .int .i64 0, .slice (some ⟨w.heap.size + 1, 0, none⟩) 1 1] := blk_at (by simp)
  generalize (((w.alloc (.cells #[.int .i64 9, .int .i64 5, .slice (some ⟨w.heap.size + 1 + 1, 0, none⟩) 1 1, .slice none 0 0] 27)).alloc (.cells #[.string ⟨#[94, 47, 97, 36]⟩, .bool false, .slice none 0 0, .string ⟨#[47, 98]⟩, .bool true, .bool false, .bool false, .bool false, .bool false, .bool false, .bool false, .bool false, .int .i64 0, .int .i64 0] 66)).alloc (.cells #[.string ⟨#[47]⟩, .int .i64 0, .slice (some ⟨w.heap.size + 1, 0, none⟩) 1 1] 48)) = Z at hb h0 h1 h2 ⊢
  have r0 : Z.cell? ⟨w.heap.size, 0, none⟩ = some (.int .i64 9) := h0.cell' (i := 0) rfl
  have r1 : Z.cell? ⟨w.heap.size, 1, none⟩ = some (.int .i64 5) := h0.cell' (i := 1) rfl
  have r2 : Z.cell? ⟨w.heap.size, 2, none⟩ = some (.slice (some ⟨w.heap.size + 1 + 1, 0, none⟩) 1 1) := h0.cell' (i := 2) rfl
  have r3 : Z.cell? ⟨w.heap.size, 3, none⟩ = some (.slice none 0 0) := h0.cell' (i := 3) rfl
  refine bodyPost_ret (v := .agg #[.int .i64 9, .int .i64 5, .slice (some ⟨w.heap.size + 1 + 1, 0, none⟩) 1 1, .slice none 0 0]) (by simp [results, Tryz.results31, go_sem, r0, r1, r2, r3]) rfl ?_
  rw [HP.out]
  exact ⟨_, _, rfl, h1, h2, hb⟩
set_option maxRecDepth 100000 in
theorem eqFt (er a : Int) (w : World) : (Op.equalIn 10000 33 (.agg #[.int .i64 er, .int .i64 a]) (.agg #[.int .i64 er, .int .i64 a])).run Tryz.prog w = .ok true w := by
  have u3 := Tryz.underlying29
  have a3 := Tryz.isAgg29
  have z3 := Tryz.sizeOf29
  have u4 := Tryz.underlying3
  have a4 := Tryz.isAgg3
  have z4 := Tryz.sizeOf3
  rw [show (10000 : Nat) = 9999 + 1 from rfl, Op.equalIn]
  simp only [Sem.run_bind, run_underlying Tryz.underlying33, Result.andThen_ok]
  go_simp
set_option maxRecDepth 100000 in
set_option maxHeartbeats 4000000 in
theorem law_fails (s : ByteArray) (hs : s.size ≤ 1000000) (er a : Int) (w : World) (hE : Env w) (h : (wholeRd s).2 = (er, a)) : Calls Tryz.prog 32 #[.string s, .int .i64 er, .int .i64 a] w (TrueP w) := by
  have hp := parse_code s hs w hE
  have hq := fun W => eqFt er a W
  have H := Lib.hid h
  clear hE h
  go_enter Tryz.func32, Tryz.ntmps32
  go_wp2_with (fail)
  refine hp.mono ?_
  rintro e W1 ⟨v, rfl, hv, hb⟩
  obtain ⟨d, r, rfl, hd, hr⟩ := hv
  obtain ⟨dA, dc, rfl⟩ := InL.slice hd
  obtain ⟨rA, rc, rfl⟩ := InL.slice hr
  rw [H.out]
  have K := Lib.hid hb
  clear hp hd hr hb
  go_wp2_with (fail)
  go_ret
  exact ⟨rfl, gr_alloc (gr_alloc K.out _) _⟩
set_option maxRecDepth 100000 in
set_option maxHeartbeats 4000000 in
theorem same_txs (l : List ByteArray) (hl : l.length ≤ 1000000) (v u : Value) (w : World) (hv : TextsIn w v l) (hu : TextsIn w u l) :
    Calls Tryz.prog 26 #[v, u] w (TrueP w) := by
  obtain ⟨A, c, rfl, _, hA⟩ := hv
  obtain ⟨B, d, rfl, _, hB⟩ := hu
  obtain ⟨n, hn⟩ : ∃ n, n = l.length := ⟨_, rfl⟩
  rw [← hn] at hl ⊢
  have H := Lib.hid (And.intro hA (And.intro hB hn))
  clear hA hB hn
  go_enter Tryz.func26, Tryz.ntmps26
  go_wp2_with (fail)
  go_loopw [5] (fun i wr => Below w.heap.size w wr ∧ ∃ k : Nat, k ≤ n ∧ i = .int .i64 (k : Int)) (fun i _ => n - (intOf i).toNat)
  case atStart => exact ⟨Below.refl _ _, 0, Nat.zero_le _, rfl⟩
  case round =>
    obtain ⟨hbel, k, hk, rfl⟩ := hrel
    have HB := Lib.hid hbel
    clear hbel
    by_cases hlt : k < n
    · have hki : (k : Int) < n := by omega
      obtain ⟨x, hx⟩ : ∃ x, l[k]? = some x := ⟨_, List.getElem?_eq_getElem (by rw [← H.out.2.2]; exact hlt)⟩
      obtain ⟨ab, ao, rfl, hab, c0⟩ := cells_tx (H.out.1.below HB.out) hx
      obtain ⟨bb, bo, rfl, hbb, d0⟩ := cells_tx (H.out.2.1.below HB.out) hx
      clear hx
      go_wp2_with (fail)
      go_quiet (fail)
      go_wp2_with (fail)
      exact ⟨⟨below_drewN HB.out _, k + 1, by omega, by go_num⟩, by simp [intOf]; omega⟩
    · obtain rfl : k = n := by omega
      go_wp2_with (fail)
      go_ret
      exact ⟨rfl, HB.out⟩
end Go.Proofs.YthpcbaamkeiffaaGreatDoor
namespace Go.Proofs.YthpcbaamkeiffaaGreatDoor
open Go.RowKit Go.Shelf
set_option linter.unusedVariables false
set_option linter.unusedSimpArgs false

/-- A number is an int. -/
def I64 (n : Int) : Prop := -9223372036854775808 ≤ n ∧ n ≤ 9223372036854775807
structure DrOk (d : Dr) : Prop where
  mode : I64 d.mode
  len : d.rus.length ≤ 1000000
  skip : ∀ r ∈ d.rus, I64 r.fl.skip
  cds : ∀ r ∈ d.rus, r.cds.length ≤ 1000000
structure RoOk (r : Ro) : Prop where
  kind : I64 r.kind
  len : r.seg.length ≤ 1000000
structure CfOk (c : Cf) : Prop where
  cap : I64 c.cap
  lim : I64 c.lim
  dl : c.dirs.length ≤ 1000000
  rl : c.ros.length ≤ 1000000
  dirs : ∀ d ∈ c.dirs, DrOk d
  ros : ∀ r ∈ c.ros, RoOk r

theorem chkRus_at {l : List Ru} {k : Nat} {x : Ru} (h : l[k]? = some x) : chkRus (l.drop k) = if chkF x.fl = 0 then chkRus (l.drop (k + 1)) else chkF x.fl := by
  obtain ⟨hk, rfl⟩ := List.getElem?_eq_some_iff.1 h
  rw [List.drop_eq_getElem_cons hk]; rfl
theorem chkDrs_at {l : List Dr} {k : Nat} {x : Dr} (h : l[k]? = some x) : chkDrs (l.drop k) = if x.mode < 0 ∨ 2 < x.mode then 10 else if chkRus x.rus = 0 then chkDrs (l.drop (k + 1)) else chkRus x.rus := by
  obtain ⟨hk, rfl⟩ := List.getElem?_eq_some_iff.1 h
  rw [List.drop_eq_getElem_cons hk]; rfl
theorem chkRos_at {l : List Ro} {k : Nat} {x : Ro} (h : l[k]? = some x) : chkRos (l.drop k) = if x.kind < 1 ∨ 4 < x.kind then 10 else if x.seg.any badSeg then 3 else chkRos (l.drop (k + 1)) := by
  obtain ⟨hk, rfl⟩ := List.getElem?_eq_some_iff.1 h
  rw [List.drop_eq_getElem_cons hk]; rfl

set_option maxRecDepth 100000 in
set_option maxHeartbeats 4000000 in
theorem check_code (c : Cf) (hc : CfOk c) (v : Value) (w : World) (hv : CfIn w v c) (hT : Tabs w) :
    Calls Tryz.prog 34 #[v] w fun e W => e = .returned (.int .i64 (checkP c)) ∧ Below w.heap.size w W := by
  obtain ⟨dv, rv, rfl, ⟨dA, dc, dus, rfl, _, hdl, hdA, hdE⟩, ⟨rA, rc, rus, rfl, _, hrl, hrA, hrE⟩⟩ := hv
  obtain ⟨nd, hnd⟩ : ∃ n, n = c.dirs.length := ⟨_, rfl⟩
  obtain ⟨nr, hnr⟩ : ∃ n, n = c.ros.length := ⟨_, rfl⟩
  obtain ⟨cp, hcp⟩ : ∃ x, x = c.cap := ⟨_, rfl⟩
  obtain ⟨lm, hlm⟩ : ∃ x, x = c.lim := ⟨_, rfl⟩
  have hnd1 : nd ≤ 1000000 := by rw [hnd]; exact hc.dl
  have hnr1 : nr ≤ 1000000 := by rw [hnr]; exact hc.rl
  rw [← hnd] at hdA ⊢
  rw [← hnr] at hrA ⊢
  rw [← hcp, ← hlm]
  have h0 : Below w.heap.size w (w.alloc (.cells #[.int .i64 cp, .int .i64 lm, .slice dA nd dc, .slice rA nr rc] 27)) := gr_alloc (Below.refl _ _) _
  have h1 : Blk (w.alloc (.cells #[.int .i64 cp, .int .i64 lm, .slice dA nd dc, .slice rA nr rc] 27)) w.heap.size 27 #[.int .i64 cp, .int .i64 lm, .slice dA nd dc, .slice rA nr rc] := Blk.new _ _ _
  have HA := Lib.hid (And.intro hc (And.intro hdl (And.intro hdA (And.intro hdE (And.intro hrl (And.intro hrA (And.intro hrE (And.intro hT (And.intro hnd (And.intro hnr (And.intro hcp (And.intro hlm (And.intro h0 h1)))))))))))))
  clear hc hdl hdA hdE hrl hrA hrE hT hnd hnr hcp hlm h0 h1
  have hI1 : I64 cp := by rw [HA.out.2.2.2.2.2.2.2.2.2.2.1]; exact HA.out.1.cap
  have hI2 : I64 lm := by rw [HA.out.2.2.2.2.2.2.2.2.2.2.2.1]; exact HA.out.1.lim
  have hbad : badCap c = (decide (cp < 0) || decide (1000000 < cp) || decide (lm < 0) || decide (1000000 < lm)) := by
    unfold badCap; rw [HA.out.2.2.2.2.2.2.2.2.2.2.1, HA.out.2.2.2.2.2.2.2.2.2.2.2.1]
  by_cases hb : badCap c = true
  · have hchk : checkP c = 2 := by unfold checkP; rw [hb]; rfl
    rw [hchk]
    clear hchk
    have hbel := Lib.hid HA.out.2.2.2.2.2.2.2.2.2.2.2.2.1
    have hor : cp < 0 ∨ (¬ cp < 0 ∧ 1000000 < cp) ∨ (¬ cp < 0 ∧ ¬ 1000000 < cp ∧ lm < 0) ∨ (¬ cp < 0 ∧ ¬ 1000000 < cp ∧ ¬ lm < 0 ∧ 1000000 < lm) := by
      rw [hbad] at hb
      simp only [Bool.or_eq_true, decide_eq_true_eq] at hb
      omega
    clear hb hbad
    rcases hor with h1 | ⟨h1, h2⟩ | ⟨h1, h2, h3⟩ | ⟨h1, h2, h3, h4⟩
    all_goals
      go_enter Tryz.func34, Tryz.ntmps34
      go_wp2_with (fail)
      go_ret
      exact ⟨rfl, hbel.out⟩
  · have hb' := Bool.eq_false_iff.2 hb
    have b1 : ¬ cp < 0 := by intro h; rw [hbad, decide_eq_true h] at hb'; simp at hb'
    have b2 : ¬ 1000000 < cp := by intro h; rw [hbad, decide_eq_true h] at hb'; simp at hb'
    have b3 : ¬ lm < 0 := by intro h; rw [hbad, decide_eq_true h] at hb'; simp at hb'
    have b4 : ¬ 1000000 < lm := by intro h; rw [hbad, decide_eq_true h] at hb'; simp at hb'
    have hchk : checkP c = if chkDrs c.dirs = 0 then chkRos c.ros else chkDrs c.dirs := by unfold checkP; rw [hb']; rfl
    have HC := Lib.hid hchk
    clear hb hb' hbad hchk
    go_enter Tryz.func34, Tryz.ntmps34
    go_wp2_with (fail)
    go_loopw [31] (fun iv wr => ∃ k : Nat, k ≤ nd ∧ iv = .int .i64 (k : Int) ∧ chkDrs c.dirs = chkDrs (c.dirs.drop k) ∧ Below w.heap.size w wr ∧ Blk wr w.heap.size 27 #[.int .i64 cp, .int .i64 lm, .slice dA nd dc, .slice rA nr rc]) (fun iv _ => nd - (intOf iv).toNat)
    case atStart => exact ⟨0, Nat.zero_le _, rfl, rfl, HA.out.2.2.2.2.2.2.2.2.2.2.2.2.1, HA.out.2.2.2.2.2.2.2.2.2.2.2.2.2⟩
    case round =>
      obtain ⟨k, hk, rfl, hck, hbel, hcf⟩ := hrel
      by_cases hlt : k < nd
      · have hii : (k : Int) < nd := by omega
        obtain ⟨ab, ao, d, u, rfl, hab, hd, hu, c0, c1, c2⟩ := cells_dr (HA.out.2.2.1.below hbel) HA.out.2.2.2.2.2.2.2.2.1 HA.out.2.1 hlt
        have hdo := HA.out.1.dirs d (List.mem_of_getElem? hd)
        obtain ⟨rA2, rc2, rus2, rfl, _, hl2, hA2, hE2⟩ := (HA.out.2.2.2.1 k d u hd hu).below hbel
        obtain ⟨nj, hnj⟩ : ∃ n, n = d.rus.length := ⟨_, rfl⟩
        obtain ⟨md, hmd⟩ : ∃ n, n = d.mode := ⟨_, rfl⟩
        have hst := chkDrs_at hd
        rw [← hnj] at hA2 c2
        rw [← hmd] at c1 hst
        have hmI : I64 md := by rw [hmd]; exact hdo.mode
        have hnj1 : nj ≤ 1000000 := by rw [hnj]; exact hdo.len
        have i0 := gr_alloc hbel (.cells #[.string d.path, .int .i64 md, .slice rA2 nj rc2] 48)
        have i1 : Below wr.heap.size wr (wr.alloc (.cells #[.string d.path, .int .i64 md, .slice rA2 nj rc2] 48)) := gr_alloc (Below.refl _ _) _
        have i2 : Blk (wr.alloc (.cells #[.string d.path, .int .i64 md, .slice rA2 nj rc2] 48)) wr.heap.size 48 #[.string d.path, .int .i64 md, .slice rA2 nj rc2] := Blk.new _ _ _
        have F := Lib.hid (And.intro hck (And.intro hbel (And.intro hcf (And.intro hdo (And.intro hl2 (And.intro hA2 (And.intro hnj (And.intro hst (And.intro i0 (And.intro i1 (And.intro i2 hE2)))))))))))
        clear hck hbel hcf hdo hl2 hA2 hE2 hnj hst i0 i1 i2 hd hu hmd
        by_cases hm0 : md < 0
        · go_wp2_with (fail)
          go_ret
          have hz := F.out
          refine ⟨?_, hz.2.2.2.2.2.2.2.2.1⟩
          rw [HC.out, hz.1, hz.2.2.2.2.2.2.2.1, if_pos (Or.inl hm0)]; rfl
        · by_cases hm2 : 2 < md
          · go_wp2_with (fail)
            go_ret
            have hz := F.out
            refine ⟨?_, hz.2.2.2.2.2.2.2.2.1⟩
            rw [HC.out, hz.1, hz.2.2.2.2.2.2.2.1, if_pos (Or.inr hm2)]; rfl
          · go_wp2_with (fail)
            obtain ⟨w2, hw2⟩ : ∃ w2, w2 = wr.alloc (.cells #[.string d.path, .int .i64 md, .slice (rA2) nj rc2] 48) := ⟨_, rfl⟩
            rw [← hw2] at F ⊢
            clear hw2
            go_loopw [46] (fun jv wx => ∃ j : Nat, j ≤ nj ∧ jv = .int .i64 (j : Int) ∧ chkRus d.rus = chkRus (d.rus.drop j) ∧ Below w2.heap.size w2 wx) (fun jv _ => nj - (intOf jv).toNat)
            case atStart => exact ⟨0, Nat.zero_le _, rfl, rfl, Below.refl _ _⟩
            case round =>
              obtain ⟨j, hj, rfl, hcj, hbx⟩ := hrel
              by_cases hjl : j < nj
              · have hji : (j : Int) < nj := by omega
                have hz := F.out
                obtain ⟨rb, ro, r, q, rfl, hrb, hr, hq, e0, e1, e2, e3, e4, e5, e6, e7, e8, e9, e10, e11, e12, e13⟩ := cells_ru ((hz.2.2.2.2.2.1.below hz.2.2.2.2.2.2.2.2.2.1).below hbx) hz.2.2.2.2.2.2.1 hz.2.2.2.2.1 hjl
                have hrs := hz.2.2.2.1.skip r (List.mem_of_getElem? hr)
                have hsj := chkRus_at hr
                obtain ⟨qA, qc, rfl⟩ := (hz.2.2.2.2.2.2.2.2.2.2.2 j r q hr hq).slice
                have hq0 : Below wr.heap.size wr (wr.alloc (.cells (ruC r (.slice qA r.cds.length qc)).toArray 66)) := gr_alloc (Below.refl _ _) _
                have hTx := ((HA.out.2.2.2.2.2.2.2.1.below hz.2.2.2.2.2.2.2.2.1 (Nat.le_refl _)).below hbx (Nat.le_refl _)).below hq0 (Nat.le_refl _)
                have hfc := fcheck r.fl hrs (wr.alloc (.cells (ruC r (.slice qA r.cds.length qc)).toArray 66)) hTx
                have G := Lib.hid (And.intro hcj (And.intro hbx (And.intro hsj hq0)))
                clear hcj hbx hsj hq0 hTx hr hq hz hrs
                go_wp2_with (fail)
                refine hfc.mono ?_
                rintro e W ⟨rfl, hbW⟩
                by_cases hcz : chkF r.fl = 0
                · have hcb : (chkF r.fl != 0) = false := by rw [hcz]; rfl
                  have G2 := Lib.hid hbW
                  clear hbW hfc
                  go_wp2_with (fail)
                  go_round
                  case measure => show nj - (j + 1) < nj - j; omega
                  case rel =>
                    refine ⟨j + 1, by omega, rfl, ?_, ((G.out.2.1.trans (G.out.2.2.2.mono G.out.2.1.size)).trans (G2.out.mono (Nat.le_trans G.out.2.1.size G.out.2.2.2.size)))⟩
                    rw [G.out.1, G.out.2.2.1, if_pos hcz]
                · have hcb : (chkF r.fl != 0) = true := bne_iff_ne.2 hcz
                  have G2 := Lib.hid (And.intro hbW hcz)
                  clear hbW hfc hcz
                  go_wp2_with (fail)
                  go_ret
                  have hz := F.out
                  have e1 : chkRus d.rus = chkF r.fl := by rw [G.out.1, G.out.2.2.1, if_neg G2.out.2]
                  have e2 : chkDrs c.dirs = chkF r.fl := by rw [hz.1, hz.2.2.2.2.2.2.2.1, if_neg (show ¬ (md < 0 ∨ 2 < md) by omega), if_neg (by rw [e1]; exact G2.out.2), e1]
                  have e3 : checkP c = chkF r.fl := by rw [HC.out, if_neg (by rw [e2]; exact G2.out.2), e2]
                  exact ⟨by rw [e3]; rfl, gr_call (gr_call (gr_call hz.2.2.2.2.2.2.2.2.1 G.out.2.1) G.out.2.2.2) G2.out.1⟩
              · have hji : ¬ (j : Int) < nj := by omega
                have hz := F.out
                have hz2 : chkRus d.rus = 0 := by rw [hcj, List.drop_eq_nil_of_le (by rw [← hz.2.2.2.2.2.2.1]; omega)]; rfl
                have G := Lib.hid (And.intro hbx hz2)
                clear hcj hbx hz hz2
                go_wp2_with (fail)
                go_round
                case measure => show nd - (k + 1) < nd - k; omega
                case rel =>
                  have hz := F.out
                  refine ⟨k + 1, by omega, rfl, ?_, gr_call hz.2.2.2.2.2.2.2.2.1 G.out.1, (hz.2.2.1.call hz.2.2.2.2.2.2.2.2.2.1).call G.out.1⟩
                  rw [hz.1, hz.2.2.2.2.2.2.2.1, if_neg (show ¬ (md < 0 ∨ 2 < md) by omega), if_pos G.out.2]
      · have hii : ¬ (k : Int) < nd := by omega
        have hz2 : chkDrs c.dirs = 0 := by rw [hck, List.drop_eq_nil_of_le (by rw [← HA.out.2.2.2.2.2.2.2.2.1]; omega)]; rfl
        have d3 : wr.cell? ⟨w.heap.size, 3, none⟩ = some (.slice rA nr rc) := hcf.cell' (i := 3) rfl
        have d3l := hcf.lt
        have HD := Lib.hid (show checkP c = chkRos c.ros by rw [HC.out, if_pos hz2])
        have G := Lib.hid (And.intro hbel hcf)
        clear hck hbel hcf hz2 HC
        go_wp2_with (fail)
        go_loopw [61] (fun iv wx => ∃ k : Nat, k ≤ nr ∧ iv = .int .i64 (k : Int) ∧ chkRos c.ros = chkRos (c.ros.drop k) ∧ Below w.heap.size w wx) (fun iv _ => nr - (intOf iv).toNat)
        case atStart => exact ⟨0, Nat.zero_le _, rfl, rfl, G.out.1⟩
        case round =>
          obtain ⟨j, hj, rfl, hcj, hbx⟩ := hrel
          by_cases hjl : j < nr
          · have hji : (j : Int) < nr := by omega
            obtain ⟨ab, ao, r, u, rfl, hab, hr, hu, c0, c1, c2⟩ := cells_ro (HA.out.2.2.2.2.2.1.below hbx) HA.out.2.2.2.2.2.2.2.2.2.1 HA.out.2.2.2.2.1 hjl
            have hro := HA.out.1.ros r (List.mem_of_getElem? hr)
            have hseg := (HA.out.2.2.2.2.2.2.1 j r u hr hu).1.below hbx
            have hst := chkRos_at hr
            obtain ⟨kd, hkd⟩ : ∃ n, n = r.kind := ⟨_, rfl⟩
            rw [← hkd] at c1 hst
            have hkI : I64 kd := by rw [hkd]; exact hro.kind
            have hsl := hro.len
            obtain ⟨sA, sc, hu1, _⟩ := hseg
            have i0 := gr_alloc hbx (.cells #[u, .int .i64 kd, .string r.txt] 70)
            have i1 : Below wr.heap.size wr (wr.alloc (.cells #[u, .int .i64 kd, .string r.txt] 70)) := gr_alloc (Below.refl _ _) _
            have hsa := segAny_code r.seg (by omega) u _ (((HA.out.2.2.2.2.2.2.1 j r u hr hu).1.below hbx).below i1)
            subst hu1
            have F := Lib.hid (And.intro hcj (And.intro hst i0))
            clear hcj hbx hst i0 i1 hr hu hro hkd
            by_cases hm0 : kd < 1
            · go_wp2_with (fail)
              go_ret
              refine ⟨?_, F.out.2.2⟩
              rw [HD.out, F.out.1, F.out.2.1, if_pos (Or.inl hm0)]; rfl
            · by_cases hm2 : 4 < kd
              · go_wp2_with (fail)
                go_ret
                refine ⟨?_, F.out.2.2⟩
                rw [HD.out, F.out.1, F.out.2.1, if_pos (Or.inr hm2)]; rfl
              · go_wp2_with (fail)
                refine hsa.mono ?_
                rintro e W ⟨rfl, rfl⟩
                clear hsa
                cases hb : r.seg.any badSeg with
                | true =>
                  go_wp2_with (fail)
                  go_ret
                  refine ⟨?_, F.out.2.2⟩
                  rw [HD.out, F.out.1, F.out.2.1, if_neg (show ¬ (kd < 1 ∨ 4 < kd) by omega), hb]; rfl
                | false =>
                  go_wp2_with (fail)
                  go_round
                  case measure => show nr - (j + 1) < nr - j; omega
                  case rel =>
                    refine ⟨j + 1, by omega, rfl, ?_, F.out.2.2⟩
                    rw [F.out.1, F.out.2.1, if_neg (show ¬ (kd < 1 ∨ 4 < kd) by omega), hb]; rfl
          · have hji : ¬ (j : Int) < nr := by omega
            have hz2 : chkRos c.ros = 0 := by rw [hcj, List.drop_eq_nil_of_le (by rw [← HA.out.2.2.2.2.2.2.2.2.2.1]; omega)]; rfl
            have F := Lib.hid (And.intro hbx hz2)
            clear hcj hbx hz2
            go_wp2_with (fail)
            go_ret
            exact ⟨by rw [HD.out, F.out.2]; rfl, F.out.1⟩
end Go.Proofs.YthpcbaamkeiffaaGreatDoor
