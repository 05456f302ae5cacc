/-
  The reference's put, walked: the plain function; no condition.
-/
import Derived.Test.YtlipjagdlpkjpaaDoorFtC
import Derived.Test.YtlipjagdlpkjpaaDoorFtD
import Derived.RegionTactic
import Derived.BigRegion
namespace Go.Proofs.YtlipjagdlpkjpaaDoor
open Go.RowKit
set_option linter.unusedVariables false
set_option linter.unusedSimpArgs false

def PutPost (w : World) (r : Put × Int) (e : Ending) (W' : World) : Prop :=
  ∃ q : Put, (r.2 = 0 → q = r.1) ∧ e = .returned (.tuple #[Value.agg #[Value.bool q.f.last, .bool q.f.next, .bool q.f.chain, .bool q.f.fin, .bool q.f.forb, .bool q.f.gone, .bool q.f.app, .bool q.f.disc, .int .i64 q.f.skip, .int .i64 q.f.red], .agg #[.bool q.sk, .bool q.rd], .int .i64 r.2]) ∧ Below w.heap.size w W'
set_option maxRecDepth 100000 in
set_option maxHeartbeats 400000 in
theorem put_res (A B : Nat) (f : Flg) (a b : Bool) (er : Int) (tmps : Array Value) (w : World) (h6 : tmps.getD 6 undef = .pointer (some ⟨A, 0, none⟩)) (h7 : tmps.getD 7 undef = .pointer (some ⟨B, 0, none⟩)) (h8 : tmps.getD 8 undef = .int .i64 er)
    (hA : Blk w A 24 #[Value.bool f.last, .bool f.next, .bool f.chain, .bool f.fin, .bool f.forb, .bool f.gone, .bool f.app, .bool f.disc, .int .i64 f.skip, .int .i64 f.red]) (hB : Blk w B 56 #[.bool a, .bool b]) :
    (results Tryd.f34 tmps).run Tryd.prog w = .ok (.tuple #[Value.agg #[Value.bool f.last, .bool f.next, .bool f.chain, .bool f.fin, .bool f.forb, .bool f.gone, .bool f.app, .bool f.disc, .int .i64 f.skip, .int .i64 f.red], .agg #[.bool a, .bool b], .int .i64 er]) w := by
  have a0 := hA.cell' (i := 0) rfl
  have a1 := hA.cell' (i := 1) rfl
  have a2 := hA.cell' (i := 2) rfl
  have a3 := hA.cell' (i := 3) rfl
  have a4 := hA.cell' (i := 4) rfl
  have a5 := hA.cell' (i := 5) rfl
  have a6 := hA.cell' (i := 6) rfl
  have a7 := hA.cell' (i := 7) rfl
  have a8 := hA.cell' (i := 8) rfl
  have a9 := hA.cell' (i := 9) rfl
  have b0 := hB.cell' (i := 0) rfl
  have b1 := hB.cell' (i := 1) rfl
  simp only [List.getElem_toArray, List.getElem_cons_zero, List.getElem_cons_succ] at a0 a1 a2 a3 a4 a5 a6 a7 a8 a9 b0 b1
  clear hA hB
  simp only [Array.getD_eq_getD_getElem?] at h6 h7 h8
  simp [results, Tryd.results34, go_sem, h6, h7, h8, a0, a1, a2, a3, a4, a5, a6, a7, a8, a9, b0, b1]
theorem four_below (w : World) (a b c d : Obj) : Below w.heap.size w ((((w.alloc a).alloc b).alloc c).alloc d).drew := gr_drew (gr_alloc (gr_alloc (gr_alloc (gr_alloc (Below.refl _ _) _) _) _) _)

set_option maxRecDepth 100000 in
set_option maxHeartbeats 2000000 in
theorem rput0 (l0 l1 l2 l3 l4 l5 l6 l7 : Bool) (sk rd : Int) (a b : Bool) (w : World) :
    Calls Tryd.prog 34 #[.agg #[Value.bool l0, .bool l1, .bool l2, .bool l3, .bool l4, .bool l5, .bool l6, .bool l7, .int .i64 sk, .int .i64 rd], .agg #[.bool a, .bool b], .string ⟨#[76]⟩] w (PutPost w (putP ⟨⟨l0, l1, l2, l3, l4, l5, l6, l7, sk, rd⟩, a, b⟩ ⟨#[76]⟩)) := by
  have hk : letK ⟨#[76]⟩ = 0 := by decide
  cases l0
  · have HP : Hid (putP ⟨⟨false, l1, l2, l3, l4, l5, l6, l7, sk, rd⟩, a, b⟩ ⟨#[76]⟩ = (⟨⟨true, l1, l2, l3, l4, l5, l6, l7, sk, rd⟩, a, b⟩, 0)) := Lib.hid (by rw [putP_flag (by rw [hk]; decide), hk]; rfl)
    clear hk
    go_enter Tryd.func34, Tryd.ntmps34
    go_wp2_with (fail)
    go_region
    go_wp2_with (fail)
    refine bodyPost_ret (put_res (w.heap.size + 1 + 1) (w.heap.size + 1 + 1 + 1) ⟨true, l1, l2, l3, l4, l5, l6, l7, sk, rd⟩ a b 0 _ _ rfl rfl rfl (((blk_at (by simp)).alloc _).drew) ((blk_at (by simp)).drew)) rfl ?_
    exact ⟨⟨⟨true, l1, l2, l3, l4, l5, l6, l7, sk, rd⟩, a, b⟩, fun _ => by rw [HP.out], by rw [HP.out], four_below _ _ _ _ _⟩
  · have HP : Hid (putP ⟨⟨true, l1, l2, l3, l4, l5, l6, l7, sk, rd⟩, a, b⟩ ⟨#[76]⟩ = (⟨⟨true, l1, l2, l3, l4, l5, l6, l7, sk, rd⟩, a, b⟩, 7)) := Lib.hid (by rw [putP_flag (by rw [hk]; decide), hk]; rfl)
    clear hk
    go_enter Tryd.func34, Tryd.ntmps34
    go_wp2_with (fail)
    go_region
    go_wp2_with (fail)
    refine bodyPost_ret (put_res (w.heap.size + 1 + 1) (w.heap.size + 1 + 1 + 1) ⟨true, l1, l2, l3, l4, l5, l6, l7, sk, rd⟩ a b 7 _ _ rfl rfl rfl (((blk_at (by simp)).alloc _).drew) ((blk_at (by simp)).drew)) rfl ?_
    exact ⟨⟨⟨true, l1, l2, l3, l4, l5, l6, l7, sk, rd⟩, a, b⟩, fun _ => by rw [HP.out], by rw [HP.out], four_below _ _ _ _ _⟩
set_option maxRecDepth 100000 in
set_option maxHeartbeats 2000000 in
theorem rput1 (l0 l1 l2 l3 l4 l5 l6 l7 : Bool) (sk rd : Int) (a b : Bool) (w : World) :
    Calls Tryd.prog 34 #[.agg #[Value.bool l0, .bool l1, .bool l2, .bool l3, .bool l4, .bool l5, .bool l6, .bool l7, .int .i64 sk, .int .i64 rd], .agg #[.bool a, .bool b], .string ⟨#[78]⟩] w (PutPost w (putP ⟨⟨l0, l1, l2, l3, l4, l5, l6, l7, sk, rd⟩, a, b⟩ ⟨#[78]⟩)) := by
  have hk : letK ⟨#[78]⟩ = 1 := by decide
  cases l1
  · have HP : Hid (putP ⟨⟨l0, false, l2, l3, l4, l5, l6, l7, sk, rd⟩, a, b⟩ ⟨#[78]⟩ = (⟨⟨l0, true, l2, l3, l4, l5, l6, l7, sk, rd⟩, a, b⟩, 0)) := Lib.hid (by rw [putP_flag (by rw [hk]; decide), hk]; rfl)
    clear hk
    go_enter Tryd.func34, Tryd.ntmps34
    go_wp2_with (fail)
    go_region
    go_wp2_with (fail)
    refine bodyPost_ret (put_res (w.heap.size + 1 + 1) (w.heap.size + 1 + 1 + 1) ⟨l0, true, l2, l3, l4, l5, l6, l7, sk, rd⟩ a b 0 _ _ rfl rfl rfl (((blk_at (by simp)).alloc _).drew) ((blk_at (by simp)).drew)) rfl ?_
    exact ⟨⟨⟨l0, true, l2, l3, l4, l5, l6, l7, sk, rd⟩, a, b⟩, fun _ => by rw [HP.out], by rw [HP.out], four_below _ _ _ _ _⟩
  · have HP : Hid (putP ⟨⟨l0, true, l2, l3, l4, l5, l6, l7, sk, rd⟩, a, b⟩ ⟨#[78]⟩ = (⟨⟨l0, true, l2, l3, l4, l5, l6, l7, sk, rd⟩, a, b⟩, 7)) := Lib.hid (by rw [putP_flag (by rw [hk]; decide), hk]; rfl)
    clear hk
    go_enter Tryd.func34, Tryd.ntmps34
    go_wp2_with (fail)
    go_region
    go_wp2_with (fail)
    refine bodyPost_ret (put_res (w.heap.size + 1 + 1) (w.heap.size + 1 + 1 + 1) ⟨l0, true, l2, l3, l4, l5, l6, l7, sk, rd⟩ a b 7 _ _ rfl rfl rfl (((blk_at (by simp)).alloc _).drew) ((blk_at (by simp)).drew)) rfl ?_
    exact ⟨⟨⟨l0, true, l2, l3, l4, l5, l6, l7, sk, rd⟩, a, b⟩, fun _ => by rw [HP.out], by rw [HP.out], four_below _ _ _ _ _⟩
set_option maxRecDepth 100000 in
set_option maxHeartbeats 2000000 in
theorem rput2 (l0 l1 l2 l3 l4 l5 l6 l7 : Bool) (sk rd : Int) (a b : Bool) (w : World) :
    Calls Tryd.prog 34 #[.agg #[Value.bool l0, .bool l1, .bool l2, .bool l3, .bool l4, .bool l5, .bool l6, .bool l7, .int .i64 sk, .int .i64 rd], .agg #[.bool a, .bool b], .string ⟨#[67]⟩] w (PutPost w (putP ⟨⟨l0, l1, l2, l3, l4, l5, l6, l7, sk, rd⟩, a, b⟩ ⟨#[67]⟩)) := by
  have hk : letK ⟨#[67]⟩ = 2 := by decide
  cases l2
  · have HP : Hid (putP ⟨⟨l0, l1, false, l3, l4, l5, l6, l7, sk, rd⟩, a, b⟩ ⟨#[67]⟩ = (⟨⟨l0, l1, true, l3, l4, l5, l6, l7, sk, rd⟩, a, b⟩, 0)) := Lib.hid (by rw [putP_flag (by rw [hk]; decide), hk]; rfl)
    clear hk
    go_enter Tryd.func34, Tryd.ntmps34
    go_wp2_with (fail)
    go_region
    go_wp2_with (fail)
    refine bodyPost_ret (put_res (w.heap.size + 1 + 1) (w.heap.size + 1 + 1 + 1) ⟨l0, l1, true, l3, l4, l5, l6, l7, sk, rd⟩ a b 0 _ _ rfl rfl rfl (((blk_at (by simp)).alloc _).drew) ((blk_at (by simp)).drew)) rfl ?_
    exact ⟨⟨⟨l0, l1, true, l3, l4, l5, l6, l7, sk, rd⟩, a, b⟩, fun _ => by rw [HP.out], by rw [HP.out], four_below _ _ _ _ _⟩
  · have HP : Hid (putP ⟨⟨l0, l1, true, l3, l4, l5, l6, l7, sk, rd⟩, a, b⟩ ⟨#[67]⟩ = (⟨⟨l0, l1, true, l3, l4, l5, l6, l7, sk, rd⟩, a, b⟩, 7)) := Lib.hid (by rw [putP_flag (by rw [hk]; decide), hk]; rfl)
    clear hk
    go_enter Tryd.func34, Tryd.ntmps34
    go_wp2_with (fail)
    go_region
    go_wp2_with (fail)
    refine bodyPost_ret (put_res (w.heap.size + 1 + 1) (w.heap.size + 1 + 1 + 1) ⟨l0, l1, true, l3, l4, l5, l6, l7, sk, rd⟩ a b 7 _ _ rfl rfl rfl (((blk_at (by simp)).alloc _).drew) ((blk_at (by simp)).drew)) rfl ?_
    exact ⟨⟨⟨l0, l1, true, l3, l4, l5, l6, l7, sk, rd⟩, a, b⟩, fun _ => by rw [HP.out], by rw [HP.out], four_below _ _ _ _ _⟩
set_option maxRecDepth 100000 in
set_option maxHeartbeats 2000000 in
theorem rput3 (l0 l1 l2 l3 l4 l5 l6 l7 : Bool) (sk rd : Int) (a b : Bool) (w : World) :
    Calls Tryd.prog 34 #[.agg #[Value.bool l0, .bool l1, .bool l2, .bool l3, .bool l4, .bool l5, .bool l6, .bool l7, .int .i64 sk, .int .i64 rd], .agg #[.bool a, .bool b], .string ⟨#[69]⟩] w (PutPost w (putP ⟨⟨l0, l1, l2, l3, l4, l5, l6, l7, sk, rd⟩, a, b⟩ ⟨#[69]⟩)) := by
  have hk : letK ⟨#[69]⟩ = 3 := by decide
  cases l3
  · have HP : Hid (putP ⟨⟨l0, l1, l2, false, l4, l5, l6, l7, sk, rd⟩, a, b⟩ ⟨#[69]⟩ = (⟨⟨l0, l1, l2, true, l4, l5, l6, l7, sk, rd⟩, a, b⟩, 0)) := Lib.hid (by rw [putP_flag (by rw [hk]; decide), hk]; rfl)
    clear hk
    go_enter Tryd.func34, Tryd.ntmps34
    go_wp2_with (fail)
    go_region
    go_wp2_with (fail)
    refine bodyPost_ret (put_res (w.heap.size + 1 + 1) (w.heap.size + 1 + 1 + 1) ⟨l0, l1, l2, true, l4, l5, l6, l7, sk, rd⟩ a b 0 _ _ rfl rfl rfl (((blk_at (by simp)).alloc _).drew) ((blk_at (by simp)).drew)) rfl ?_
    exact ⟨⟨⟨l0, l1, l2, true, l4, l5, l6, l7, sk, rd⟩, a, b⟩, fun _ => by rw [HP.out], by rw [HP.out], four_below _ _ _ _ _⟩
  · have HP : Hid (putP ⟨⟨l0, l1, l2, true, l4, l5, l6, l7, sk, rd⟩, a, b⟩ ⟨#[69]⟩ = (⟨⟨l0, l1, l2, true, l4, l5, l6, l7, sk, rd⟩, a, b⟩, 7)) := Lib.hid (by rw [putP_flag (by rw [hk]; decide), hk]; rfl)
    clear hk
    go_enter Tryd.func34, Tryd.ntmps34
    go_wp2_with (fail)
    go_region
    go_wp2_with (fail)
    refine bodyPost_ret (put_res (w.heap.size + 1 + 1) (w.heap.size + 1 + 1 + 1) ⟨l0, l1, l2, true, l4, l5, l6, l7, sk, rd⟩ a b 7 _ _ rfl rfl rfl (((blk_at (by simp)).alloc _).drew) ((blk_at (by simp)).drew)) rfl ?_
    exact ⟨⟨⟨l0, l1, l2, true, l4, l5, l6, l7, sk, rd⟩, a, b⟩, fun _ => by rw [HP.out], by rw [HP.out], four_below _ _ _ _ _⟩
set_option maxRecDepth 100000 in
set_option maxHeartbeats 2000000 in
theorem rput4 (l0 l1 l2 l3 l4 l5 l6 l7 : Bool) (sk rd : Int) (a b : Bool) (w : World) :
    Calls Tryd.prog 34 #[.agg #[Value.bool l0, .bool l1, .bool l2, .bool l3, .bool l4, .bool l5, .bool l6, .bool l7, .int .i64 sk, .int .i64 rd], .agg #[.bool a, .bool b], .string ⟨#[70]⟩] w (PutPost w (putP ⟨⟨l0, l1, l2, l3, l4, l5, l6, l7, sk, rd⟩, a, b⟩ ⟨#[70]⟩)) := by
  have hk : letK ⟨#[70]⟩ = 4 := by decide
  cases l4
  · have HP : Hid (putP ⟨⟨l0, l1, l2, l3, false, l5, l6, l7, sk, rd⟩, a, b⟩ ⟨#[70]⟩ = (⟨⟨l0, l1, l2, l3, true, l5, l6, l7, sk, rd⟩, a, b⟩, 0)) := Lib.hid (by rw [putP_flag (by rw [hk]; decide), hk]; rfl)
    clear hk
    go_enter Tryd.func34, Tryd.ntmps34
    go_wp2_with (fail)
    go_region
    go_wp2_with (fail)
    refine bodyPost_ret (put_res (w.heap.size + 1 + 1) (w.heap.size + 1 + 1 + 1) ⟨l0, l1, l2, l3, true, l5, l6, l7, sk, rd⟩ a b 0 _ _ rfl rfl rfl (((blk_at (by simp)).alloc _).drew) ((blk_at (by simp)).drew)) rfl ?_
    exact ⟨⟨⟨l0, l1, l2, l3, true, l5, l6, l7, sk, rd⟩, a, b⟩, fun _ => by rw [HP.out], by rw [HP.out], four_below _ _ _ _ _⟩
  · have HP : Hid (putP ⟨⟨l0, l1, l2, l3, true, l5, l6, l7, sk, rd⟩, a, b⟩ ⟨#[70]⟩ = (⟨⟨l0, l1, l2, l3, true, l5, l6, l7, sk, rd⟩, a, b⟩, 7)) := Lib.hid (by rw [putP_flag (by rw [hk]; decide), hk]; rfl)
    clear hk
    go_enter Tryd.func34, Tryd.ntmps34
    go_wp2_with (fail)
    go_region
    go_wp2_with (fail)
    refine bodyPost_ret (put_res (w.heap.size + 1 + 1) (w.heap.size + 1 + 1 + 1) ⟨l0, l1, l2, l3, true, l5, l6, l7, sk, rd⟩ a b 7 _ _ rfl rfl rfl (((blk_at (by simp)).alloc _).drew) ((blk_at (by simp)).drew)) rfl ?_
    exact ⟨⟨⟨l0, l1, l2, l3, true, l5, l6, l7, sk, rd⟩, a, b⟩, fun _ => by rw [HP.out], by rw [HP.out], four_below _ _ _ _ _⟩
set_option maxRecDepth 100000 in
set_option maxHeartbeats 2000000 in
theorem rput5 (l0 l1 l2 l3 l4 l5 l6 l7 : Bool) (sk rd : Int) (a b : Bool) (w : World) :
    Calls Tryd.prog 34 #[.agg #[Value.bool l0, .bool l1, .bool l2, .bool l3, .bool l4, .bool l5, .bool l6, .bool l7, .int .i64 sk, .int .i64 rd], .agg #[.bool a, .bool b], .string ⟨#[71]⟩] w (PutPost w (putP ⟨⟨l0, l1, l2, l3, l4, l5, l6, l7, sk, rd⟩, a, b⟩ ⟨#[71]⟩)) := by
  have hk : letK ⟨#[71]⟩ = 5 := by decide
  cases l5
  · have HP : Hid (putP ⟨⟨l0, l1, l2, l3, l4, false, l6, l7, sk, rd⟩, a, b⟩ ⟨#[71]⟩ = (⟨⟨l0, l1, l2, l3, l4, true, l6, l7, sk, rd⟩, a, b⟩, 0)) := Lib.hid (by rw [putP_flag (by rw [hk]; decide), hk]; rfl)
    clear hk
    go_enter Tryd.func34, Tryd.ntmps34
    go_wp2_with (fail)
    go_region
    go_wp2_with (fail)
    refine bodyPost_ret (put_res (w.heap.size + 1 + 1) (w.heap.size + 1 + 1 + 1) ⟨l0, l1, l2, l3, l4, true, l6, l7, sk, rd⟩ a b 0 _ _ rfl rfl rfl (((blk_at (by simp)).alloc _).drew) ((blk_at (by simp)).drew)) rfl ?_
    exact ⟨⟨⟨l0, l1, l2, l3, l4, true, l6, l7, sk, rd⟩, a, b⟩, fun _ => by rw [HP.out], by rw [HP.out], four_below _ _ _ _ _⟩
  · have HP : Hid (putP ⟨⟨l0, l1, l2, l3, l4, true, l6, l7, sk, rd⟩, a, b⟩ ⟨#[71]⟩ = (⟨⟨l0, l1, l2, l3, l4, true, l6, l7, sk, rd⟩, a, b⟩, 7)) := Lib.hid (by rw [putP_flag (by rw [hk]; decide), hk]; rfl)
    clear hk
    go_enter Tryd.func34, Tryd.ntmps34
    go_wp2_with (fail)
    go_region
    go_wp2_with (fail)
    refine bodyPost_ret (put_res (w.heap.size + 1 + 1) (w.heap.size + 1 + 1 + 1) ⟨l0, l1, l2, l3, l4, true, l6, l7, sk, rd⟩ a b 7 _ _ rfl rfl rfl (((blk_at (by simp)).alloc _).drew) ((blk_at (by simp)).drew)) rfl ?_
    exact ⟨⟨⟨l0, l1, l2, l3, l4, true, l6, l7, sk, rd⟩, a, b⟩, fun _ => by rw [HP.out], by rw [HP.out], four_below _ _ _ _ _⟩
set_option maxRecDepth 100000 in
set_option maxHeartbeats 2000000 in
theorem rput6 (l0 l1 l2 l3 l4 l5 l6 l7 : Bool) (sk rd : Int) (a b : Bool) (w : World) :
    Calls Tryd.prog 34 #[.agg #[Value.bool l0, .bool l1, .bool l2, .bool l3, .bool l4, .bool l5, .bool l6, .bool l7, .int .i64 sk, .int .i64 rd], .agg #[.bool a, .bool b], .string ⟨#[65]⟩] w (PutPost w (putP ⟨⟨l0, l1, l2, l3, l4, l5, l6, l7, sk, rd⟩, a, b⟩ ⟨#[65]⟩)) := by
  have hk : letK ⟨#[65]⟩ = 6 := by decide
  cases l6
  · have HP : Hid (putP ⟨⟨l0, l1, l2, l3, l4, l5, false, l7, sk, rd⟩, a, b⟩ ⟨#[65]⟩ = (⟨⟨l0, l1, l2, l3, l4, l5, true, l7, sk, rd⟩, a, b⟩, 0)) := Lib.hid (by rw [putP_flag (by rw [hk]; decide), hk]; rfl)
    clear hk
    go_enter Tryd.func34, Tryd.ntmps34
    go_wp2_with (fail)
    go_region
    go_wp2_with (fail)
    refine bodyPost_ret (put_res (w.heap.size + 1 + 1) (w.heap.size + 1 + 1 + 1) ⟨l0, l1, l2, l3, l4, l5, true, l7, sk, rd⟩ a b 0 _ _ rfl rfl rfl (((blk_at (by simp)).alloc _).drew) ((blk_at (by simp)).drew)) rfl ?_
    exact ⟨⟨⟨l0, l1, l2, l3, l4, l5, true, l7, sk, rd⟩, a, b⟩, fun _ => by rw [HP.out], by rw [HP.out], four_below _ _ _ _ _⟩
  · have HP : Hid (putP ⟨⟨l0, l1, l2, l3, l4, l5, true, l7, sk, rd⟩, a, b⟩ ⟨#[65]⟩ = (⟨⟨l0, l1, l2, l3, l4, l5, true, l7, sk, rd⟩, a, b⟩, 7)) := Lib.hid (by rw [putP_flag (by rw [hk]; decide), hk]; rfl)
    clear hk
    go_enter Tryd.func34, Tryd.ntmps34
    go_wp2_with (fail)
    go_region
    go_wp2_with (fail)
    refine bodyPost_ret (put_res (w.heap.size + 1 + 1) (w.heap.size + 1 + 1 + 1) ⟨l0, l1, l2, l3, l4, l5, true, l7, sk, rd⟩ a b 7 _ _ rfl rfl rfl (((blk_at (by simp)).alloc _).drew) ((blk_at (by simp)).drew)) rfl ?_
    exact ⟨⟨⟨l0, l1, l2, l3, l4, l5, true, l7, sk, rd⟩, a, b⟩, fun _ => by rw [HP.out], by rw [HP.out], four_below _ _ _ _ _⟩
set_option maxRecDepth 100000 in
set_option maxHeartbeats 2000000 in
theorem rput7 (l0 l1 l2 l3 l4 l5 l6 l7 : Bool) (sk rd : Int) (a b : Bool) (w : World) :
    Calls Tryd.prog 34 #[.agg #[Value.bool l0, .bool l1, .bool l2, .bool l3, .bool l4, .bool l5, .bool l6, .bool l7, .int .i64 sk, .int .i64 rd], .agg #[.bool a, .bool b], .string ⟨#[68]⟩] w (PutPost w (putP ⟨⟨l0, l1, l2, l3, l4, l5, l6, l7, sk, rd⟩, a, b⟩ ⟨#[68]⟩)) := by
  have hk : letK ⟨#[68]⟩ = 7 := by decide
  cases l7
  · have HP : Hid (putP ⟨⟨l0, l1, l2, l3, l4, l5, l6, false, sk, rd⟩, a, b⟩ ⟨#[68]⟩ = (⟨⟨l0, l1, l2, l3, l4, l5, l6, true, sk, rd⟩, a, b⟩, 0)) := Lib.hid (by rw [putP_flag (by rw [hk]; decide), hk]; rfl)
    clear hk
    go_enter Tryd.func34, Tryd.ntmps34
    go_wp2_with (fail)
    go_region
    go_wp2_with (fail)
    refine bodyPost_ret (put_res (w.heap.size + 1 + 1) (w.heap.size + 1 + 1 + 1) ⟨l0, l1, l2, l3, l4, l5, l6, true, sk, rd⟩ a b 0 _ _ rfl rfl rfl (((blk_at (by simp)).alloc _).drew) ((blk_at (by simp)).drew)) rfl ?_
    exact ⟨⟨⟨l0, l1, l2, l3, l4, l5, l6, true, sk, rd⟩, a, b⟩, fun _ => by rw [HP.out], by rw [HP.out], four_below _ _ _ _ _⟩
  · have HP : Hid (putP ⟨⟨l0, l1, l2, l3, l4, l5, l6, true, sk, rd⟩, a, b⟩ ⟨#[68]⟩ = (⟨⟨l0, l1, l2, l3, l4, l5, l6, true, sk, rd⟩, a, b⟩, 7)) := Lib.hid (by rw [putP_flag (by rw [hk]; decide), hk]; rfl)
    clear hk
    go_enter Tryd.func34, Tryd.ntmps34
    go_wp2_with (fail)
    go_region
    go_wp2_with (fail)
    refine bodyPost_ret (put_res (w.heap.size + 1 + 1) (w.heap.size + 1 + 1 + 1) ⟨l0, l1, l2, l3, l4, l5, l6, true, sk, rd⟩ a b 7 _ _ rfl rfl rfl (((blk_at (by simp)).alloc _).drew) ((blk_at (by simp)).drew)) rfl ?_
    exact ⟨⟨⟨l0, l1, l2, l3, l4, l5, l6, true, sk, rd⟩, a, b⟩, fun _ => by rw [HP.out], by rw [HP.out], four_below _ _ _ _ _⟩
end Go.Proofs.YtlipjagdlpkjpaaDoor
