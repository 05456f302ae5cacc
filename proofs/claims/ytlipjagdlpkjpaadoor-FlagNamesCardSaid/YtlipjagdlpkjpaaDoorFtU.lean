/-
  Codes of both, reads, fails, awake, walked; conditions: the two tables lie as they are laid, a variable of the library is an int.
-/
import Derived.Test.YtlipjagdlpkjpaaDoorFtT
import Derived.Test.YtlipjagdlpkjpaaDoorOpen
namespace Go.Proofs.YtlipjagdlpkjpaaDoor
open Go.RowKit Go.Joins
set_option linter.unusedVariables false
set_option linter.unusedSimpArgs false

def codesL : List Int := [301, 302, 303, 307, 308]
theorem infoInt : (Tryd.prog.info? 3).map (fun i => (i.zero, i.size, i.bytes)) = some (some (.int .i64 0), 1, 8) := by kernel_rfl

set_option maxRecDepth 100000 in
set_option maxHeartbeats 1000000 in
theorem fcodes (w : World) (hT : Tabs w) :
    Calls Tryd.prog 21 #[] w fun e W' => ∃ A c, e = .returned (.slice A 5 c) ∧ Cells W' A 1 5 (intsAt codesL) ∧ Below w.heap.size w W' := by
  have c0 := hT.1.cell gCodes 0 (by decide)
  have c1 := hT.1.cell gCodes 1 (by decide)
  have c2 := hT.1.cell gCodes 2 (by decide)
  have c3 := hT.1.cell gCodes 3 (by decide)
  have c4 := hT.1.cell gCodes 4 (by decide)
  simp only [List.getD_cons_zero, List.getD_cons_succ] at c0 c1 c2 c3 c4
  have hlt : 0 < w.heap.size := (cell_block c0).1
  obtain ⟨i0, hi, hz0, hz1, hz2⟩ := info_parts infoInt
  have hown := own_empty w w.heap.size 3 1 (Nat.le_refl _)
  clear hT
  have HC : Hid (∀ j u, (codesL.map (Value.int .i64))[j]? = some u → (w.alloc (.cells #[] 3)).cell? ((⟨0, 0, none⟩ : Addr).add j) = some u) := Lib.hid (by
    intro j u hj
    rw [Addr.add_lit, World.cell?_alloc_lt _ _ _ (by show 0 < _; exact hlt)]
    match j, hj with
    | 0, h => rw [← Option.some.inj h]; exact c0
    | 1, h => rw [← Option.some.inj h]; exact c1
    | 2, h => rw [← Option.some.inj h]; exact c2
    | 3, h => rw [← Option.some.inj h]; exact c3
    | 4, h => rw [← Option.some.inj h]; exact c4)
  clear c0 c1 c2 c3 c4
  go_enter Tryd.func21, Tryd.ntmps21
  go_wp2_with (at_builtin; refine wpList_append_own _ rfl _ _ 37 rfl w.heap.size 3 i0 (.int .i64 0) 1 8 Tryd.underlying37 hi hz0 hz1 hz2 rfl (by decide) _ _ _ rfl hown ⟨0, 0, none⟩ 5 5 (codesL.map (Value.int .i64)) rfl rfl ?c1 ?c2 ?c3 ?c4 ?c5 ?_)
  case c1 => exact HC.out
  case c2 => intro u hu; obtain ⟨q, _, rfl⟩ := List.mem_map.1 hu; rfl
  case c3 => unfold maxLen; omega
  case c4 => omega
  case c5 => simp
  intro v' w2 hown' hgrow _
  have hbel := (gr_alloc (Below.refl w.heap.size w) (.cells #[] 3)).grown hgrow (by simp) (fun k hk => by simp [Value.ownBlock] at hk; omega)
  have hfl : (codesL.map (Value.int .i64) : List Value) = flatC (intsAt codesL) 1 5 := rfl
  rw [hfl] at hown'
  obtain ⟨A, c, rfl, hcl, _⟩ := row_cells (by decide) hown'
  have H := Lib.hid (And.intro hcl hbel)
  clear hown' hgrow hbel hcl hown
  go_wp2_with (fail)
  go_ret
  exact ⟨A, c, rfl, H.out.1, H.out.2⟩

set_option maxRecDepth 100000 in
set_option maxHeartbeats 1000000 in
theorem rcodesC (w : World) :
    Calls Tryd.prog 22 #[] w fun e W' => ∃ A c, e = .returned (.slice A 5 c) ∧ Cells W' A 1 5 (intsAt codesL) ∧ Below w.heap.size w W' := by
  go_enter Tryd.func22, Tryd.ntmps22
  go_wp2_with (fail)
  go_ret
  refine ⟨_, _, rfl, fun _ => ⟨w.heap.size, 0, rfl, by simp, fun i j hi hj => ?_⟩, gr_alloc (Below.refl _ _) _⟩
  obtain rfl : j = 0 := by omega
  rw [show 0 + i * 1 + 0 = i by omega, (Blk.new w 3 #[.int .i64 301, .int .i64 302, .int .i64 303, .int .i64 307, .int .i64 308]).cell i]
  have h : i = 0 ∨ i = 1 ∨ i = 2 ∨ i = 3 ∨ i = 4 := by omega
  rcases h with rfl | rfl | rfl | rfl | rfl <;> rfl

set_option maxRecDepth 100000 in
theorem eqFlg (f : Flg) (w : World) : (Op.equalIn 10000 24 (Value.agg #[Value.bool f.last, .bool f.next, .bool f.chain, .bool f.fin, .bool f.forb, .bool f.gone, .bool f.app, .bool f.disc, .int .i64 f.skip, .int .i64 f.red]) (Value.agg #[Value.bool f.last, .bool f.next, .bool f.chain, .bool f.fin, .bool f.forb, .bool f.gone, .bool f.app, .bool f.disc, .int .i64 f.skip, .int .i64 f.red])).run Tryd.prog w = .ok true w := by
  have u3 := Tryd.underlying4
  have a3 := Tryd.isAgg4
  have z3 := Tryd.sizeOf4
  have u4 := Tryd.underlying3
  have a4 := Tryd.isAgg3
  have z4 := Tryd.sizeOf3
  rw [show (10000 : Nat) = 9999 + 1 from rfl, Op.equalIn]
  simp only [Sem.run_bind, run_underlying Tryd.underlying24, Result.andThen_ok]
  go_simp
set_option maxRecDepth 100000 in
theorem eqFlt (a b : Int) (w : World) : (Op.equalIn 10000 27 (.agg #[.int .i64 a, .int .i64 b]) (.agg #[.int .i64 a, .int .i64 b])).run Tryd.prog w = .ok true w := by
  have u4 := Tryd.underlying3
  have a4 := Tryd.isAgg3
  have z4 := Tryd.sizeOf3
  have u5 := Tryd.underlying25
  have a5 := Tryd.isAgg25
  have z5 := Tryd.sizeOf25
  rw [show (10000 : Nat) = 9999 + 1 from rfl, Op.equalIn]
  simp only [Sem.run_bind, run_underlying Tryd.underlying27, Result.andThen_ok]
  go_simp

set_option maxRecDepth 100000 in
set_option maxHeartbeats 2000000 in
theorem lreads (s : ByteArray) (f : Flg) (hs : s.size ≤ 1000000) (h : parseS s = (f, 0, 0)) (w : World) (hT : Tabs w) (hm : MaxOk w) :
    Calls Tryd.prog 25 #[.string s, Value.agg #[Value.bool f.last, .bool f.next, .bool f.chain, .bool f.fin, .bool f.forb, .bool f.gone, .bool f.app, .bool f.disc, .int .i64 f.skip, .int .i64 f.red]] w fun e W' => e = .returned (.bool true) ∧ Below w.heap.size w W' := by
  have i0 := gr_alloc (Below.refl w.heap.size w) (.cells #[Value.bool f.last, .bool f.next, .bool f.chain, .bool f.fin, .bool f.forb, .bool f.gone, .bool f.app, .bool f.disc, .int .i64 f.skip, .int .i64 f.red] 24)
  have f0 := Blk.new w 24 #[Value.bool f.last, .bool f.next, .bool f.chain, .bool f.fin, .bool f.forb, .bool f.gone, .bool f.app, .bool f.disc, .int .i64 f.skip, .int .i64 f.red]
  have H0 := Lib.hid (And.intro f0 (And.intro i0 (And.intro hT (And.intro hm h))))
  have hq := fun W => eqFlg f W
  have hq2 := fun W => eqFlt 0 0 W
  clear f0 i0 hT hm h
  go_enter Tryd.func25, Tryd.ntmps25
  go_wp2_with (fail)
  refine (fparse s hs _ (H0.out.2.2.1.below H0.out.2.1 (Nat.le_refl _)) (H0.out.2.2.2.1.below H0.out.2.1 (Nat.le_refl _))).mono ?_
  rintro e W1 ⟨rfl, h1⟩
  have hb1 := H0.out.1.call h1
  have hl1 := hb1.lt
  have k0 := hb1.cell' (i := 0) rfl
  have k1 := hb1.cell' (i := 1) rfl
  have k2 := hb1.cell' (i := 2) rfl
  have k3 := hb1.cell' (i := 3) rfl
  have k4 := hb1.cell' (i := 4) rfl
  have k5 := hb1.cell' (i := 5) rfl
  have k6 := hb1.cell' (i := 6) rfl
  have k7 := hb1.cell' (i := 7) rfl
  have k8 := hb1.cell' (i := 8) rfl
  have k9 := hb1.cell' (i := 9) rfl
  simp only [List.getElem_toArray, List.getElem_cons_zero, List.getElem_cons_succ] at k0 k1 k2 k3 k4 k5 k6 k7 k8 k9
  have H1 := Lib.hid (gr_call H0.out.2.1 h1)
  rw [H0.out.2.2.2.2]
  clear h1 hb1
  go_wp2_with (fail)
  go_ret
  exact ⟨rfl, gr_alloc (gr_alloc H1.out _) _⟩

set_option maxRecDepth 100000 in
set_option maxHeartbeats 2000000 in
theorem lfails (s : ByteArray) (er : Int) (at' : Nat) (hs : s.size ≤ 1000000) (h : parseS s = (zeroF, er, at')) (w : World) (hT : Tabs w) (hm : MaxOk w) :
    Calls Tryd.prog 26 #[.string s, .int .i64 er, .int .i64 (at' : Int)] w fun e W' => e = .returned (.bool true) ∧ Below w.heap.size w W' := by
  have H0 := Lib.hid h
  have hq := fun W => eqFlg zeroF W
  have hq2 := fun W => eqFlt er (at' : Int) W
  have HT := Lib.hid (And.intro hT hm)
  clear h hT hm
  go_enter Tryd.func26, Tryd.ntmps26
  go_wp2_with (fail)
  refine (fparse s hs _ HT.out.1 HT.out.2).mono ?_
  rintro e W1 ⟨rfl, h1⟩
  have H1 := Lib.hid h1
  rw [H0.out]
  clear h1
  go_wp2_with (fail)
  go_ret
  exact ⟨rfl, gr_alloc (gr_alloc H1.out _) _⟩
end Go.Proofs.YtlipjagdlpkjpaaDoor
