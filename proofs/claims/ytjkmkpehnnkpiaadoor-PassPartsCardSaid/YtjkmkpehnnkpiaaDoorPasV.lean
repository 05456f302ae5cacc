/-
  The law's own, same, sameFlags, waypostkit.OwnBools, walked; no condition.
-/
import Derived.Test.YtjkmkpehnnkpiaaDoorPasU
import Derived.Deep.RegionWith
namespace Go.Proofs.YtjkmkpehnnkpiaaDoor
open Go.RowKit Go.Joins Go.Shelf
set_option linter.unusedVariables false
set_option linter.unusedSimpArgs false

set_option maxRecDepth 100000 in
theorem eqFlg (f : Flg) (w : World) : (Op.equalIn 10000 54 (Value.agg #[Value.bool f.last, .bool f.next, .bool f.chain, .bool f.fin, .bool f.forb, .bool f.gone, .bool f.app, .bool f.disc, .int .i64 f.skip, .int .i64 f.red]) (Value.agg #[Value.bool f.last, .bool f.next, .bool f.chain, .bool f.fin, .bool f.forb, .bool f.gone, .bool f.app, .bool f.disc, .int .i64 f.skip, .int .i64 f.red])).run Tryd.prog w = .ok true w := by
  have u3 := Tryd.underlying4
  have a3 := Tryd.isAgg4
  have z3 := Tryd.sizeOf4
  have u4 := Tryd.underlying3
  have a4 := Tryd.isAgg3
  have z4 := Tryd.sizeOf3
  rw [show (10000 : Nat) = 9999 + 1 from rfl, Op.equalIn]
  simp only [Sem.run_bind, run_underlying Tryd.underlying54, Result.andThen_ok]
  go_simp

set_option maxRecDepth 100000 in
set_option maxHeartbeats 4000000 in
theorem sameF (F : Nat → Flg) (A B : Option Addr) (n c d : Nat) (hn : n ≤ 1000000) (w : World) (hA : Cells w A 10 n (flgAt F)) (hB : Cells w B 10 n (flgAt F)) :
    Calls Tryd.prog 37 #[.slice A n c, .slice B n d] w fun e W' => e = .returned (.bool true) ∧ Below w.heap.size w W' := by
  have H := Lib.hid (And.intro hA hB)
  clear hA hB
  go_enter Tryd.func37, Tryd.ntmps37
  go_wp2_with (fail)
  go_loopw [5] (fun i wr => Below w.heap.size w wr ∧ ∃ k : Nat, k ≤ n ∧ i = .int .i64 (k : Int)) (fun i _ => n - (intOf i).toNat)
  case atStart => exact ⟨Below.refl _ _, 0, Nat.zero_le _, rfl⟩
  case round =>
    obtain ⟨hbel, k, hk, rfl⟩ := hrel
    have HB := Lib.hid hbel
    clear hbel
    by_cases hlt : k < n
    · obtain ⟨ab, ao, rfl, had, hcl⟩ := (H.out.1.below HB.out) (by omega)
      have c0 : wr.cell? ⟨ab, ao + k * 10, none⟩ = some (.bool (F k).last) := hcl k 0 hlt (by decide)
      have c1 : wr.cell? ⟨ab, ao + k * 10 + 1, none⟩ = some (.bool (F k).next) := hcl k 1 hlt (by decide)
      have c2 : wr.cell? ⟨ab, ao + k * 10 + 2, none⟩ = some (.bool (F k).chain) := hcl k 2 hlt (by decide)
      have c3 : wr.cell? ⟨ab, ao + k * 10 + 3, none⟩ = some (.bool (F k).fin) := hcl k 3 hlt (by decide)
      have c4 : wr.cell? ⟨ab, ao + k * 10 + 4, none⟩ = some (.bool (F k).forb) := hcl k 4 hlt (by decide)
      have c5 : wr.cell? ⟨ab, ao + k * 10 + 5, none⟩ = some (.bool (F k).gone) := hcl k 5 hlt (by decide)
      have c6 : wr.cell? ⟨ab, ao + k * 10 + 6, none⟩ = some (.bool (F k).app) := hcl k 6 hlt (by decide)
      have c7 : wr.cell? ⟨ab, ao + k * 10 + 7, none⟩ = some (.bool (F k).disc) := hcl k 7 hlt (by decide)
      have c8 : wr.cell? ⟨ab, ao + k * 10 + 8, none⟩ = some (.int .i64 (F k).skip) := hcl k 8 hlt (by decide)
      have c9 : wr.cell? ⟨ab, ao + k * 10 + 9, none⟩ = some (.int .i64 (F k).red) := hcl k 9 hlt (by decide)
      clear hcl had
      obtain ⟨ab2, ao2, rfl, had, hcl⟩ := (H.out.2.below HB.out) (by omega)
      have d0 : wr.cell? ⟨ab2, ao2 + k * 10, none⟩ = some (.bool (F k).last) := hcl k 0 hlt (by decide)
      have d1 : wr.cell? ⟨ab2, ao2 + k * 10 + 1, none⟩ = some (.bool (F k).next) := hcl k 1 hlt (by decide)
      have d2 : wr.cell? ⟨ab2, ao2 + k * 10 + 2, none⟩ = some (.bool (F k).chain) := hcl k 2 hlt (by decide)
      have d3 : wr.cell? ⟨ab2, ao2 + k * 10 + 3, none⟩ = some (.bool (F k).fin) := hcl k 3 hlt (by decide)
      have d4 : wr.cell? ⟨ab2, ao2 + k * 10 + 4, none⟩ = some (.bool (F k).forb) := hcl k 4 hlt (by decide)
      have d5 : wr.cell? ⟨ab2, ao2 + k * 10 + 5, none⟩ = some (.bool (F k).gone) := hcl k 5 hlt (by decide)
      have d6 : wr.cell? ⟨ab2, ao2 + k * 10 + 6, none⟩ = some (.bool (F k).app) := hcl k 6 hlt (by decide)
      have d7 : wr.cell? ⟨ab2, ao2 + k * 10 + 7, none⟩ = some (.bool (F k).disc) := hcl k 7 hlt (by decide)
      have d8 : wr.cell? ⟨ab2, ao2 + k * 10 + 8, none⟩ = some (.int .i64 (F k).skip) := hcl k 8 hlt (by decide)
      have d9 : wr.cell? ⟨ab2, ao2 + k * 10 + 9, none⟩ = some (.int .i64 (F k).red) := hcl k 9 hlt (by decide)
      clear hcl
      have hq := fun W => eqFlg (F k) W
      generalize F k = f at *
      go_wp2_with (fail)
      go_quiet (fail)
      go_wp2_with (fail)
      exact ⟨⟨below_drewN HB.out _, k + 1, by omega, by go_num⟩, by simp [intOf]; omega⟩
    · obtain rfl : k = n := by omega
      go_wp2_with (fail)
      go_ret
      exact ⟨rfl, HB.out⟩

set_option maxRecDepth 100000 in
set_option maxHeartbeats 4000000 in
theorem sameP (F : Nat → Flg) (A B : Option Addr) (n c d : Nat) (t : Int) (en : Bool) (hn : n ≤ 1000000) (w : World) (hA : Cells w A 10 n (flgAt F)) (hB : Cells w B 10 n (flgAt F)) :
    Calls Tryd.prog 19 #[.agg #[.slice A n c, .int .i64 t, .bool en], .agg #[.slice B n d, .int .i64 t, .bool en]] w fun e W' => e = .returned (.bool true) ∧ Below w.heap.size w W' := by
  have H := Lib.hid (And.intro hA hB)
  have z := Lib.hid (gr_alloc (gr_alloc (Below.refl w.heap.size w) (.cells #[.slice A n c, .int .i64 t, .bool en] 30)) (.cells #[.slice B n d, .int .i64 t, .bool en] 30))
  clear hA hB
  go_enter Tryd.func19, Tryd.ntmps19
  go_wp2_with (fail)
  refine (sameF F A B n c d hn _ (H.out.1.below z.out) (H.out.2.below z.out)).mono ?_
  rintro e W1 ⟨rfl, h1⟩
  have H1 := Lib.hid (gr_call z.out h1)
  clear h1
  go_wp2_with (fail)
  go_ret
  exact ⟨rfl, H1.out⟩

theorem infoBool : (Tryd.prog.info? 4).map (fun i => (i.zero, i.size, i.bytes)) = some (some (.bool false), 1, 1) := by kernel_rfl
set_option maxRecDepth 100000 in
set_option maxHeartbeats 4000000 in
theorem ownBools (G : Nat → Bool) (A : Option Addr) (n c : Nat) (hn : n ≤ 1000000) (w : World) (hA : ArgOk A n c) (hc : Cells w A 1 n (boolAt G)) :
    Calls Tryd.prog 25 #[.slice A n c] w fun e W' => ∃ B d, e = .returned (.slice B n d) ∧ Cells W' B 1 n (boolAt G) ∧ ArgOk B n d ∧ Below w.heap.size w W' := by
  obtain ⟨i1, hi1, hz10, hz11, hz12⟩ := info_parts infoBool
  have HA := Lib.hid (And.intro hA hc)
  clear hA hc
  go_enter Tryd.func25, Tryd.ntmps25
  go_wp2_with (at_builtin; refine append_any rfl _ _ 31 rfl w.heap.size 4 i1 _ 1 1 Tryd.underlying31 hi1 hz10 hz11 hz12 rfl (by decide) _ rfl (own_empty w w.heap.size 4 1 (Nat.le_refl _)) A n c (boolAt G) rfl HA.out.1 ?c1 ?c2 ?c3 ?c4 ?c5 ?_)
  case c1 => exact HA.out.2.below ((Below.refl w.heap.size w).alloc (Nat.le_refl _) _)
  case c2 => intro i j; rfl
  case c3 => unfold maxLen; omega
  case c4 => omega
  case c5 => simp
  intro v1 W1 hown1 hgrow1
  have b1 : Below w.heap.size w W1 := (gr_alloc (Below.refl w.heap.size w) _).grown hgrow1 (by simp) (by intro k hk; simp [Value.ownBlock] at hk; omega)
  obtain ⟨B1, d1, rfl, q1, ok1⟩ := row_cells (by decide) hown1
  have H := Lib.hid (And.intro b1 (And.intro q1 ok1))
  clear b1 q1 ok1 hown1 hgrow1
  go_wp2_with (fail)
  go_ret
  exact ⟨B1, d1, rfl, H.out.2.1, H.out.2.2, H.out.1⟩

set_option maxRecDepth 100000 in
set_option maxHeartbeats 4000000 in
theorem lownP (F : Nat → Flg) (A : Option Addr) (n c : Nat) (t : Int) (en : Bool) (hn : n ≤ 1000000) (w : World) (hA : ArgOk A n c) (hc : Cells w A 10 n (flgAt F)) :
    Calls Tryd.prog 14 #[.agg #[.slice A n c, .int .i64 t, .bool en]] w fun e W' => ∃ B d, e = .returned (.agg #[.slice B n d, .int .i64 t, .bool en]) ∧ Cells W' B 10 n (flgAt F) ∧ ArgOk B n d ∧ Below w.heap.size w W' := by
  have HA := Lib.hid (And.intro hA hc)
  have z0 := gr_alloc (gr_alloc (Below.refl w.heap.size w) (.cells #[.slice A n c, .int .i64 t, .bool en] 30)) (.cells #[.slice none 0 0, .int .i64 0, .bool false] 30)
  have f0 := (Blk.new w 30 #[.slice A n c, .int .i64 t, .bool en]).alloc (.cells #[.slice none 0 0, .int .i64 0, .bool false] 30)
  have f1 : Blk ((w.alloc (.cells #[.slice A n c, .int .i64 t, .bool en] 30)).alloc (.cells #[.slice none 0 0, .int .i64 0, .bool false] 30)) (w.heap.size + 1) 30 #[.slice none 0 0, .int .i64 0, .bool false] := blk_at (by simp)
  have H0 := Lib.hid (And.intro z0 (And.intro f0 f1))
  clear hA hc z0 f0 f1
  go_enter Tryd.func14, Tryd.ntmps14
  go_wp2_with (fail)
  go_region_with (go_at_call 12; refine (lown F A n c hn _ HA.out.1 (HA.out.2.below (gr_drew H0.out.1))).mono ?_; rintro e W ⟨B, d, rfl, k1, k2, hb, k4⟩; have ya : Blk W w.heap.size 30 #[.slice A n c, .int .i64 t, .bool en] := Blk.call (by exact H0.out.2.1) hb; have yr : Blk W (w.heap.size + 1) 30 #[.slice none 0 0, .int .i64 0, .bool false] := Blk.call (by exact H0.out.2.2) hb; have a1 := ya.cell' (i := 1) rfl; have a2 := ya.cell' (i := 2) rfl; have al := ya.lt; have r0 := yr.cell' (i := 0) rfl; have r1 := yr.cell' (i := 1) rfl; have r2 := yr.cell' (i := 2) rfl; have rf0 := yr.frozen 0; have rf1 := yr.frozen 1; have rf2 := yr.frozen 2; have rl := yr.lt)
  all_goals
    have hz := gr_call (gr_drew H0.out.1) hb
    have hfr : ∀ a, B = some a → a.block ≠ w.heap.size + 1 := fun a ha => by have h1 := (k4 a ha).1; have h2 := H0.out.2.2.lt; simp at h1 h2; omega
    have H9 := Lib.hid (And.intro hz (And.intro k1 (And.intro k2 hfr)))
    clear hz hfr k1 k2 k4 hb ya yr
    go_wp2_with (fail)
    refine bodyPost_ret (v := .agg #[.slice B n d, .int .i64 t, .bool en]) (by simp [results, Tryd.results14, go_sem, r0, r1, r2, rl]) rfl ⟨B, d, rfl, ?_, H9.out.2.2.1, ?_⟩
    · exact ((H9.out.2.1.far H9.out.2.2.2 0 _).far H9.out.2.2.2 1 _).far H9.out.2.2.2 2 _
    · exact gr_set (gr_set (gr_set H9.out.1 (by simp) _) (by simp) _) (by simp) _
end Go.Proofs.YtjkmkpehnnkpiaaDoor
