/-
  The reference's Parse, walked; no condition.
-/
import Derived.Test.YtlipjagdlpkjpaaDoorFtN
import Derived.Laws.DeepStrings4
import Derived.Deep.RegionHeld3
import Derived.Deep.RegionWith
namespace Go.Proofs.YtlipjagdlpkjpaaDoor
open Go.RowKit
set_option linter.unusedVariables false
set_option linter.unusedSimpArgs false

set_option maxRecDepth 100000 in
set_option maxHeartbeats 400000 in
theorem rparse_res (A B : Nat) (f : Flg) (er a : Int) (tmps : Array Value) (w : World) (h2 : tmps.getD 2 undef = .pointer (some ⟨A, 0, none⟩)) (h3 : tmps.getD 3 undef = .pointer (some ⟨B, 0, none⟩))
    (hA : Blk w A 24 #[Value.bool f.last, .bool f.next, .bool f.chain, .bool f.fin, .bool f.forb, .bool f.gone, .bool f.app, .bool f.disc, .int .i64 f.skip, .int .i64 f.red]) (hB : Blk w B 27 #[.int .i64 er, .int .i64 a]) :
    (results Tryd.f11 tmps).run Tryd.prog w = .ok (.tuple #[Value.agg #[Value.bool f.last, .bool f.next, .bool f.chain, .bool f.fin, .bool f.forb, .bool f.gone, .bool f.app, .bool f.disc, .int .i64 f.skip, .int .i64 f.red], .agg #[.int .i64 er, .int .i64 a]]) w := by
  have a0 := hA.cell' (i := 0) rfl
  have a1 := hA.cell' (i := 1) rfl
  have a2 := hA.cell' (i := 2) rfl
  have a3 := hA.cell' (i := 3) rfl
  have a4 := hA.cell' (i := 4) rfl
  have a5 := hA.cell' (i := 5) rfl
  have a6 := hA.cell' (i := 6) rfl
  have a7 := hA.cell' (i := 7) rfl
  have a8 := hA.cell' (i := 8) rfl
  have a9 := hA.cell' (i := 9) rfl
  have b0 := hB.cell' (i := 0) rfl
  have b1 := hB.cell' (i := 1) rfl
  simp only [List.getElem_toArray, List.getElem_cons_zero, List.getElem_cons_succ] at a0 a1 a2 a3 a4 a5 a6 a7 a8 a9 b0 b1
  clear hA hB
  simp only [Array.getD_eq_getD_getElem?] at h2 h3
  simp [results, Tryd.results11, go_sem, h2, h3, a0, a1, a2, a3, a4, a5, a6, a7, a8, a9, b0, b1]
set_option maxRecDepth 100000 in
set_option maxHeartbeats 1000000 in
theorem rparse_empty (w : World) :
    Calls Tryd.prog 11 #[.string ⟨#[]⟩] w (ParsePost w (zeroF, 0, 0)) := by
  go_enter Tryd.func11, Tryd.ntmps11
  go_wp2_with (fail)
  refine bodyPost_ret (rparse_res w.heap.size (w.heap.size + 1) zeroF 0 0 _ _ rfl rfl (two_blks w 0 0).1 (two_blks w 0 0).2.1) rfl ?_
  exact ⟨rfl, (two_blks w 0 0).2.2⟩

set_option maxRecDepth 100000 in
set_option maxHeartbeats 1000000 in
theorem rparse_head (s : ByteArray) (h0 : 0 < s.size) (hs : s.size ≤ 1000000) (h : byS s 0 ≠ 91) (w : World) :
    Calls Tryd.prog 11 #[.string s] w (ParsePost w (zeroF, 3, 0)) := by
  have hne := nonempty_b s (by omega)
  obtain ⟨d, hd⟩ : ∃ d, d = byS s 0 := ⟨_, rfl⟩
  have e0 := fun h' => get_byS s 0 h'
  simp only [← hd] at e0 h
  have q : ((d : Int) != 91) = true := by simp; omega
  clear hd h
  go_enter Tryd.func11, Tryd.ntmps11
  go_wp2_with (fail)
  refine bodyPost_ret (rparse_res w.heap.size (w.heap.size + 1) zeroF 3 0 _ _ rfl rfl (two_blks w 3 0).1 (two_blks w 3 0).2.1) rfl ?_
  exact ⟨rfl, (two_blks w 3 0).2.2⟩

set_option maxRecDepth 100000 in
set_option maxHeartbeats 1000000 in
theorem rparse_one (s : ByteArray) (h0 : s.size = 1) (h : byS s 0 = 91) (w : World) :
    Calls Tryd.prog 11 #[.string s] w (ParsePost w (zeroF, 3, 1)) := by
  have hne := nonempty_b s (by omega)
  obtain ⟨d, hd⟩ : ∃ d, d = byS s 0 := ⟨_, rfl⟩
  have e0 := fun h' => get_byS s 0 h'
  simp only [← hd] at e0 h
  have q : ((d : Int) != 91) = false := by simp; omega
  have hs : s.size ≤ 1 := by omega
  have hs1 : 1 ≤ s.size := by omega
  have qs : (((s.size : Int) - 1) == 0) = true := by simp; omega
  clear hd h h0
  go_enter Tryd.func11, Tryd.ntmps11
  go_wp2_with (fail)
  refine bodyPost_ret (rparse_res w.heap.size (w.heap.size + 1) zeroF 3 1 _ _ rfl rfl (two_blks w 3 1).1 (two_blks w 3 1).2.1) rfl ?_
  exact ⟨rfl, (two_blks w 3 1).2.2⟩

set_option maxRecDepth 100000 in
set_option maxHeartbeats 1000000 in
theorem rparse_tail (s : ByteArray) (h0 : 1 < s.size) (hs : s.size ≤ 1000000) (h : byS s 0 = 91) (h9 : byS s (s.size - 1) ≠ 93) (w : World) :
    Calls Tryd.prog 11 #[.string s] w (ParsePost w (zeroF, 3, s.size - 1)) := by
  have hne := nonempty_b s (by omega)
  obtain ⟨d, hd⟩ : ∃ d, d = byS s 0 := ⟨_, rfl⟩
  have e0 := fun h' => get_byS s 0 h'
  simp only [← hd] at e0 h
  have q : ((d : Int) != 91) = false := by simp; omega
  have qs : (((s.size : Int) - 1) == 0) = false := by simp; omega
  obtain ⟨z, hz⟩ : ∃ z, z = byS s (s.size - 1) := ⟨_, rfl⟩
  have e9 := fun h' => get_byS s (s.size - 1) h'
  simp only [← hz] at e9 h9
  have q9 : ((z : Int) != 93) = true := by simp; omega
  clear hd h hz h9
  go_enter Tryd.func11, Tryd.ntmps11
  go_wp2_with (fail)
  refine bodyPost_ret (rparse_res w.heap.size (w.heap.size + 1) zeroF 3 ((s.size : Int) - 1) _ _ rfl rfl (two_blks w 3 ((s.size : Int) - 1)).1 (two_blks w 3 ((s.size : Int) - 1)).2.1) rfl ?_
  exact ⟨by rw [show ((s.size - 1 : Nat) : Int) = (s.size : Int) - 1 by omega], (two_blks w 3 ((s.size : Int) - 1)).2.2⟩

/-- What put gave, written. -/
theorem set_put {W w : World} {N : Nat} {q : Put} {f : Flg} {a b : Bool} (h1 : Blk W (N + 1 + 1) 24 #[Value.bool f.last, .bool f.next, .bool f.chain, .bool f.fin, .bool f.forb, .bool f.gone, .bool f.app, .bool f.disc, .int .i64 f.skip, .int .i64 f.red]) (h2 : Blk W (N + 1 + 1 + 1) 56 #[.bool a, .bool b])
    (hA : Blk W N 24 #[Value.bool zeroF.last, .bool zeroF.next, .bool zeroF.chain, .bool zeroF.fin, .bool zeroF.forb, .bool zeroF.gone, .bool zeroF.app, .bool zeroF.disc, .int .i64 zeroF.skip, .int .i64 zeroF.red]) (hR : Blk W (N + 1) 27 #[.int .i64 0, .int .i64 0]) (hb : Below N w W) :
    Blk ((((((((((((W.setCell ⟨N + 1 + 1, 0, none⟩ (.bool q.f.last)).setCell ⟨N + 1 + 1, 1, none⟩ (.bool q.f.next)).setCell ⟨N + 1 + 1, 2, none⟩ (.bool q.f.chain)).setCell ⟨N + 1 + 1, 3, none⟩ (.bool q.f.fin)).setCell ⟨N + 1 + 1, 4, none⟩ (.bool q.f.forb)).setCell ⟨N + 1 + 1, 5, none⟩ (.bool q.f.gone)).setCell ⟨N + 1 + 1, 6, none⟩ (.bool q.f.app)).setCell ⟨N + 1 + 1, 7, none⟩ (.bool q.f.disc)).setCell ⟨N + 1 + 1, 8, none⟩ (.int .i64 q.f.skip)).setCell ⟨N + 1 + 1, 9, none⟩ (.int .i64 q.f.red)).setCell ⟨N + 1 + 1 + 1, 0, none⟩ (.bool q.sk)).setCell ⟨N + 1 + 1 + 1, 1, none⟩ (.bool q.rd)) (N + 1 + 1) 24 #[Value.bool q.f.last, .bool q.f.next, .bool q.f.chain, .bool q.f.fin, .bool q.f.forb, .bool q.f.gone, .bool q.f.app, .bool q.f.disc, .int .i64 q.f.skip, .int .i64 q.f.red] ∧ Blk ((((((((((((W.setCell ⟨N + 1 + 1, 0, none⟩ (.bool q.f.last)).setCell ⟨N + 1 + 1, 1, none⟩ (.bool q.f.next)).setCell ⟨N + 1 + 1, 2, none⟩ (.bool q.f.chain)).setCell ⟨N + 1 + 1, 3, none⟩ (.bool q.f.fin)).setCell ⟨N + 1 + 1, 4, none⟩ (.bool q.f.forb)).setCell ⟨N + 1 + 1, 5, none⟩ (.bool q.f.gone)).setCell ⟨N + 1 + 1, 6, none⟩ (.bool q.f.app)).setCell ⟨N + 1 + 1, 7, none⟩ (.bool q.f.disc)).setCell ⟨N + 1 + 1, 8, none⟩ (.int .i64 q.f.skip)).setCell ⟨N + 1 + 1, 9, none⟩ (.int .i64 q.f.red)).setCell ⟨N + 1 + 1 + 1, 0, none⟩ (.bool q.sk)).setCell ⟨N + 1 + 1 + 1, 1, none⟩ (.bool q.rd)) (N + 1 + 1 + 1) 56 #[.bool q.sk, .bool q.rd] ∧
    Blk ((((((((((((W.setCell ⟨N + 1 + 1, 0, none⟩ (.bool q.f.last)).setCell ⟨N + 1 + 1, 1, none⟩ (.bool q.f.next)).setCell ⟨N + 1 + 1, 2, none⟩ (.bool q.f.chain)).setCell ⟨N + 1 + 1, 3, none⟩ (.bool q.f.fin)).setCell ⟨N + 1 + 1, 4, none⟩ (.bool q.f.forb)).setCell ⟨N + 1 + 1, 5, none⟩ (.bool q.f.gone)).setCell ⟨N + 1 + 1, 6, none⟩ (.bool q.f.app)).setCell ⟨N + 1 + 1, 7, none⟩ (.bool q.f.disc)).setCell ⟨N + 1 + 1, 8, none⟩ (.int .i64 q.f.skip)).setCell ⟨N + 1 + 1, 9, none⟩ (.int .i64 q.f.red)).setCell ⟨N + 1 + 1 + 1, 0, none⟩ (.bool q.sk)).setCell ⟨N + 1 + 1 + 1, 1, none⟩ (.bool q.rd)) N 24 #[Value.bool zeroF.last, .bool zeroF.next, .bool zeroF.chain, .bool zeroF.fin, .bool zeroF.forb, .bool zeroF.gone, .bool zeroF.app, .bool zeroF.disc, .int .i64 zeroF.skip, .int .i64 zeroF.red] ∧ Blk ((((((((((((W.setCell ⟨N + 1 + 1, 0, none⟩ (.bool q.f.last)).setCell ⟨N + 1 + 1, 1, none⟩ (.bool q.f.next)).setCell ⟨N + 1 + 1, 2, none⟩ (.bool q.f.chain)).setCell ⟨N + 1 + 1, 3, none⟩ (.bool q.f.fin)).setCell ⟨N + 1 + 1, 4, none⟩ (.bool q.f.forb)).setCell ⟨N + 1 + 1, 5, none⟩ (.bool q.f.gone)).setCell ⟨N + 1 + 1, 6, none⟩ (.bool q.f.app)).setCell ⟨N + 1 + 1, 7, none⟩ (.bool q.f.disc)).setCell ⟨N + 1 + 1, 8, none⟩ (.int .i64 q.f.skip)).setCell ⟨N + 1 + 1, 9, none⟩ (.int .i64 q.f.red)).setCell ⟨N + 1 + 1 + 1, 0, none⟩ (.bool q.sk)).setCell ⟨N + 1 + 1 + 1, 1, none⟩ (.bool q.rd)) (N + 1) 27 #[.int .i64 0, .int .i64 0] ∧ Below N w ((((((((((((W.setCell ⟨N + 1 + 1, 0, none⟩ (.bool q.f.last)).setCell ⟨N + 1 + 1, 1, none⟩ (.bool q.f.next)).setCell ⟨N + 1 + 1, 2, none⟩ (.bool q.f.chain)).setCell ⟨N + 1 + 1, 3, none⟩ (.bool q.f.fin)).setCell ⟨N + 1 + 1, 4, none⟩ (.bool q.f.forb)).setCell ⟨N + 1 + 1, 5, none⟩ (.bool q.f.gone)).setCell ⟨N + 1 + 1, 6, none⟩ (.bool q.f.app)).setCell ⟨N + 1 + 1, 7, none⟩ (.bool q.f.disc)).setCell ⟨N + 1 + 1, 8, none⟩ (.int .i64 q.f.skip)).setCell ⟨N + 1 + 1, 9, none⟩ (.int .i64 q.f.red)).setCell ⟨N + 1 + 1 + 1, 0, none⟩ (.bool q.sk)).setCell ⟨N + 1 + 1 + 1, 1, none⟩ (.bool q.rd)) := by
  refine ⟨?_, ?_, ?_, ?_, ?_⟩
  · exact ((lay10_same h1 rfl _ _ _ _ _ _ _ _ _ _).far (p := ⟨N + 1 + 1 + 1, 0, none⟩) (by simp) _).far (p := ⟨N + 1 + 1 + 1, 1, none⟩) (by simp) _
  · exact ((lay10_far h2 (by simp) _ _ _ _ _ _ _ _ _ _).set_ 0 _).set_ 1 _
  · exact ((lay10_far hA (by simp; omega) _ _ _ _ _ _ _ _ _ _).far (p := ⟨N + 1 + 1 + 1, 0, none⟩) (by simp; omega) _).far (p := ⟨N + 1 + 1 + 1, 1, none⟩) (by simp; omega) _
  · exact ((lay10_far hR (by simp) _ _ _ _ _ _ _ _ _ _).far (p := ⟨N + 1 + 1 + 1, 0, none⟩) (by simp) _).far (p := ⟨N + 1 + 1 + 1, 1, none⟩) (by simp) _
  · refine (Below.setCell (Below.setCell ?_ (by simp; omega) _) (by simp; omega) _)
    exact hb.trans ((lay10_x (BelowX.refl _ _ _) _ _ _ _ _ _ _ _ _ _).below (Nat.le_refl _) (by omega))

def RpRel (s : ByteArray) (N : Nat) (w : World) (n : Nat) (fr iv : Value) (wr : World) : Prop :=
  ∃ (a i : Nat) (st : Put), n + i = s.size ∧ 1 ≤ a ∧ a ≤ i ∧ i ≤ s.size ∧ iv = .int .i64 (i : Int) ∧ fr = .int .i64 (a : Int) ∧ PutOk st ∧
    (i < s.size → runP (partsF s) zeroPut 1 = runP ((segs (byS s) 44 a i (s.size - 1 - i)).map (fun p => s.extract p.1 p.2)) st a) ∧ (i = s.size → ∃ a', runP (partsF s) zeroPut 1 = (st, 0, a')) ∧
    Blk wr (N + 1 + 1) 24 #[Value.bool st.f.last, .bool st.f.next, .bool st.f.chain, .bool st.f.fin, .bool st.f.forb, .bool st.f.gone, .bool st.f.app, .bool st.f.disc, .int .i64 st.f.skip, .int .i64 st.f.red] ∧ Blk wr (N + 1 + 1 + 1) 56 #[.bool st.sk, .bool st.rd] ∧ Blk wr N 24 #[Value.bool zeroF.last, .bool zeroF.next, .bool zeroF.chain, .bool zeroF.fin, .bool zeroF.forb, .bool zeroF.gone, .bool zeroF.app, .bool zeroF.disc, .int .i64 zeroF.skip, .int .i64 zeroF.red] ∧ Blk wr (N + 1) 27 #[.int .i64 0, .int .i64 0] ∧ Below N w wr

set_option maxRecDepth 100000 in
set_option maxHeartbeats 1000000 in
theorem rparse_main (s : ByteArray) (h0 : 1 < s.size) (hs : s.size ≤ 1000000) (h : byS s 0 = 91) (h9 : byS s (s.size - 1) = 93) (w : World) :
    Calls Tryd.prog 11 #[.string s] w (ParsePost w (doneR (runP (partsF s) zeroPut 1))) := by
  have hne := nonempty_b s (by omega)
  obtain ⟨d, hd⟩ : ∃ d, d = byS s 0 := ⟨_, rfl⟩
  have e0 := fun h' => get_byS s 0 h'
  simp only [← hd] at e0 h
  have q : ((d : Int) != 91) = false := by simp; omega
  have qs : (((s.size : Int) - 1) == 0) = false := by simp; omega
  obtain ⟨z, hz⟩ : ∃ z, z = byS s (s.size - 1) := ⟨_, rfl⟩
  have e9 := fun h' => get_byS s (s.size - 1) h'
  simp only [← hz] at e9 h9
  have q9 : ((z : Int) != 93) = false := by simp; omega
  clear hd h hz h9
  go_enter Tryd.func11, Tryd.ntmps11
  go_wp2_with (fail)
  go_loopg [7, 8] (s.size - 1) (fun n fr iv wr => RpRel s w.heap.size w n fr iv wr)
  case atStart =>
    obtain ⟨h1, h2, h3⟩ := two_blks w 0 0
    refine ⟨1, 1, zeroPut, by omega, by omega, by omega, by omega, rfl, rfl, ⟨by decide, by decide⟩, fun _ => rfl, fun e => absurd e (by omega), (blk_at (by simp)).alloc _, blk_at (by simp), (h1.alloc _).alloc _, (h2.alloc _).alloc _, gr_alloc (gr_alloc h3 _) _⟩
  case round =>
    clear hne e0 q qs e9 q9
    obtain ⟨a, i, st, hn, ha1, hai, his, rfl, rfl, hok, hrun, hend, hbF, hbS, hbA, hbR, hbel⟩ := hrel
    by_cases hlt : i < s.size
    · have hl : (i : Int) ≤ (s.size : Int) - 1 := by omega
      have H := Lib.hid (And.intro (hrun hlt) (And.intro hbF (And.intro hbS (And.intro hbA (And.intro hbR (And.intro hbel hok))))))
      have hz := hbS.lt
      clear hrun hend hbF hbS hbA hbR hbel hok
      by_cases hq : i + 1 < s.size ∧ byS s i ≠ 44
      · obtain ⟨hq1, hq2⟩ := hq
        have hq1i : (i : Int) < (s.size : Int) - 1 := by omega
        obtain ⟨c, hc⟩ : ∃ c, c = byS s i := ⟨_, rfl⟩
        have e1 := fun h' => get_byS s i h'
        simp only [← hc] at e1 hq2
        have q2 : ((c : Int) != 44) = true := by simp; omega
        have HX := Lib.hid (And.intro hc hq2)
        clear hc hq2
        go_wp2_with (fail)
        go_roundg (s.size - (i + 1))
        case measure => omega
        case rel =>
          refine ⟨a, i + 1, st, by omega, ha1, by omega, by omega, by go_num, rfl, H.out.2.2.2.2.2.2, fun _ => ?_, fun e => absurd e (by omega), H.out.2.1, H.out.2.2.1, H.out.2.2.2.1, H.out.2.2.2.2.1, H.out.2.2.2.2.2.1⟩
          rw [H.out.1, show s.size - 1 - i = (s.size - 1 - (i + 1)) + 1 by omega, segs_miss (by rw [← HX.out.1]; exact HX.out.2)]
      · have hcase : (¬ (i : Int) < (s.size : Int) - 1) ∨ ((i : Int) < (s.size : Int) - 1 ∧ byS s i = 44) := by omega
        clear hq
        have c0 : wr.cell? ⟨w.heap.size + 1 + 1, 0, none⟩ = some (.bool st.f.last) := H.out.2.1.cell' (i := 0) rfl
        have c1 : wr.cell? ⟨w.heap.size + 1 + 1, 1, none⟩ = some (.bool st.f.next) := H.out.2.1.cell' (i := 1) rfl
        have c2 : wr.cell? ⟨w.heap.size + 1 + 1, 2, none⟩ = some (.bool st.f.chain) := H.out.2.1.cell' (i := 2) rfl
        have c3 : wr.cell? ⟨w.heap.size + 1 + 1, 3, none⟩ = some (.bool st.f.fin) := H.out.2.1.cell' (i := 3) rfl
        have c4 : wr.cell? ⟨w.heap.size + 1 + 1, 4, none⟩ = some (.bool st.f.forb) := H.out.2.1.cell' (i := 4) rfl
        have c5 : wr.cell? ⟨w.heap.size + 1 + 1, 5, none⟩ = some (.bool st.f.gone) := H.out.2.1.cell' (i := 5) rfl
        have c6 : wr.cell? ⟨w.heap.size + 1 + 1, 6, none⟩ = some (.bool st.f.app) := H.out.2.1.cell' (i := 6) rfl
        have c7 : wr.cell? ⟨w.heap.size + 1 + 1, 7, none⟩ = some (.bool st.f.disc) := H.out.2.1.cell' (i := 7) rfl
        have c8 : wr.cell? ⟨w.heap.size + 1 + 1, 8, none⟩ = some (.int .i64 st.f.skip) := H.out.2.1.cell' (i := 8) rfl
        have c9 : wr.cell? ⟨w.heap.size + 1 + 1, 9, none⟩ = some (.int .i64 st.f.red) := H.out.2.1.cell' (i := 9) rfl
        have s0 : wr.cell? ⟨w.heap.size + 1 + 1 + 1, 0, none⟩ = some (.bool st.sk) := H.out.2.2.1.cell' (i := 0) rfl
        have s1 : wr.cell? ⟨w.heap.size + 1 + 1 + 1, 1, none⟩ = some (.bool st.rd) := H.out.2.2.1.cell' (i := 1) rfl
        have hz2 := H.out.2.1.lt
        obtain ⟨p, hp⟩ : ∃ p, p = s.extract a i := ⟨_, rfl⟩
        have hps : p.size ≤ 1000000 := by rw [hp, ext_len his]; omega
        have HP := Lib.hid hp
        have hai2 : (a : Int) ≤ (i : Int) := by omega
        have his2 : (i : Int) ≤ (s.size : Int) := by omega
        have hsl : ∀ W : World, (Instr.slice 9 (.string s) (some (.int .i64 (a : Int))) (some (.int .i64 (i : Int))) none).run Tryd.prog W = .ok (.string p) W := fun W => by
          rw [run_slice_string_if _ _ _ _ _ _ _ Tryd.underlying9, if_pos (by omega), if_pos (by omega), hp]
          rfl
        clear hp
        rcases hcase with hcase | ⟨hcase, hbc⟩
        · go_wp2_with (fail)
          go_region_with (go_at_call 34; refine (rput st p hps _).mono ?_; rintro e W2 ⟨qq, hqq, rfl, h2⟩; have y1 := H.out.2.1.drew.call h2; have y2 := H.out.2.2.1.drew.call h2; have d0 : W2.cell? ⟨w.heap.size + 1 + 1, 0, none⟩ = some (.bool st.f.last) := y1.cell' (i := 0) rfl; have g0 := y1.frozen 0; have d1 : W2.cell? ⟨w.heap.size + 1 + 1, 1, none⟩ = some (.bool st.f.next) := y1.cell' (i := 1) rfl; have g1 := y1.frozen 1; have d2 : W2.cell? ⟨w.heap.size + 1 + 1, 2, none⟩ = some (.bool st.f.chain) := y1.cell' (i := 2) rfl; have g2 := y1.frozen 2; have d3 : W2.cell? ⟨w.heap.size + 1 + 1, 3, none⟩ = some (.bool st.f.fin) := y1.cell' (i := 3) rfl; have g3 := y1.frozen 3; have d4 : W2.cell? ⟨w.heap.size + 1 + 1, 4, none⟩ = some (.bool st.f.forb) := y1.cell' (i := 4) rfl; have g4 := y1.frozen 4; have d5 : W2.cell? ⟨w.heap.size + 1 + 1, 5, none⟩ = some (.bool st.f.gone) := y1.cell' (i := 5) rfl; have g5 := y1.frozen 5; have d6 : W2.cell? ⟨w.heap.size + 1 + 1, 6, none⟩ = some (.bool st.f.app) := y1.cell' (i := 6) rfl; have g6 := y1.frozen 6; have d7 : W2.cell? ⟨w.heap.size + 1 + 1, 7, none⟩ = some (.bool st.f.disc) := y1.cell' (i := 7) rfl; have g7 := y1.frozen 7; have d8 : W2.cell? ⟨w.heap.size + 1 + 1, 8, none⟩ = some (.int .i64 st.f.skip) := y1.cell' (i := 8) rfl; have g8 := y1.frozen 8; have d9 : W2.cell? ⟨w.heap.size + 1 + 1, 9, none⟩ = some (.int .i64 st.f.red) := y1.cell' (i := 9) rfl; have g9 := y1.frozen 9; have t0 : W2.cell? ⟨w.heap.size + 1 + 1 + 1, 0, none⟩ = some (.bool st.sk) := y2.cell' (i := 0) rfl; have t1 : W2.cell? ⟨w.heap.size + 1 + 1 + 1, 1, none⟩ = some (.bool st.rd) := y2.cell' (i := 1) rfl; have r0 := y2.frozen 0; have r1 := y2.frozen 1; have l1 := y1.lt; have l2 := y2.lt; have Y := Lib.hid (And.intro hqq (And.intro h2 (And.intro y1 y2))); clear hqq h2 y1 y2)
          all_goals
            have G := Lib.hid (set_put (q := qq) Y.out.2.2.1 Y.out.2.2.2 (H.out.2.2.2.1.drew.call Y.out.2.1) (H.out.2.2.2.2.1.drew.call Y.out.2.1) (gr_call (below_drewN H.out.2.2.2.2.2.1 1) Y.out.2.1))
            obtain ⟨X, hX⟩ : ∃ X, X = ((((((((((((W2.setCell ⟨w.heap.size + 1 + 1, 0, none⟩ (.bool qq.f.last)).setCell ⟨w.heap.size + 1 + 1, 1, none⟩ (.bool qq.f.next)).setCell ⟨w.heap.size + 1 + 1, 2, none⟩ (.bool qq.f.chain)).setCell ⟨w.heap.size + 1 + 1, 3, none⟩ (.bool qq.f.fin)).setCell ⟨w.heap.size + 1 + 1, 4, none⟩ (.bool qq.f.forb)).setCell ⟨w.heap.size + 1 + 1, 5, none⟩ (.bool qq.f.gone)).setCell ⟨w.heap.size + 1 + 1, 6, none⟩ (.bool qq.f.app)).setCell ⟨w.heap.size + 1 + 1, 7, none⟩ (.bool qq.f.disc)).setCell ⟨w.heap.size + 1 + 1, 8, none⟩ (.int .i64 qq.f.skip)).setCell ⟨w.heap.size + 1 + 1, 9, none⟩ (.int .i64 qq.f.red)).setCell ⟨w.heap.size + 1 + 1 + 1, 0, none⟩ (.bool qq.sk)).setCell ⟨w.heap.size + 1 + 1 + 1, 1, none⟩ (.bool qq.rd)) := ⟨_, rfl⟩
            rw [← hX] at G ⊢
            obtain ⟨er, her⟩ : ∃ er, er = (putP st p).2 := ⟨_, rfl⟩
            have HER := Lib.hid (And.intro her Y.out.1)
            rw [← her]
            clear hX d0 d1 d2 d3 d4 d5 d6 d7 d8 d9 g0 g1 g2 g3 g4 g5 g6 g7 g8 g9 t0 t1 r0 r1 l1 l2 Y c0 c1 c2 c3 c4 c5 c6 c7 c8 c9 s0 s1 hsl her
            have hz3 := G.out.2.1.lt
            by_cases he : er = 0
            · have q : (er != 0) = false := by simp; exact he
              have HE := Lib.hid he
              clear he
              go_wp2_with (fail)
              go_roundg (s.size - (i + 1))
              case measure => omega
              case rel =>
                have hq : qq = (putP st p).1 := HER.out.2 (by rw [← HER.out.1]; exact HE.out)
                have hz : (putP st p).2 = 0 := HER.out.1.symm.trans HE.out
                refine ⟨i + 1, i + 1, qq, by omega, by omega, by omega, by omega, by go_num, by go_num, by rw [hq]; exact put_ok H.out.2.2.2.2.2.2 p, ?_, ?_, G.out.1, G.out.2.1, G.out.2.2.1, G.out.2.2.2.1, G.out.2.2.2.2⟩
                · intro hi1
                  exact absurd hi1 (by omega)
                · intro hi1
                  exact ⟨_, by rw [H.out.1, show s.size - 1 - i = 0 by omega]; show runP [s.extract a i] st a = _; rw [← HP.out]; unfold runP; rw [if_pos hz]; unfold runP; rw [hq]⟩
            · have q : (er != 0) = true := by simp; exact he
              have hr : Hid (doneR (runP (partsF s) zeroPut 1) = (zeroF, er, a)) := Lib.hid (by
                have hz : (putP st p).2 ≠ 0 := by rw [← HER.out.1]; exact he
                rw [H.out.1, show s.size - 1 - i = 0 by omega]; show doneR (runP [s.extract a i] st a) = _; rw [← HP.out]; unfold runP
                rw [if_neg hz, ← HER.out.1]
                unfold doneR
                exact if_neg he)
              clear he
              have a0 : X.cell? ⟨w.heap.size, 0, none⟩ = some (.bool false) := G.out.2.2.1.cell' (i := 0) rfl
              have a1 : X.cell? ⟨w.heap.size, 1, none⟩ = some (.bool false) := G.out.2.2.1.cell' (i := 1) rfl
              have a2 : X.cell? ⟨w.heap.size, 2, none⟩ = some (.bool false) := G.out.2.2.1.cell' (i := 2) rfl
              have a3 : X.cell? ⟨w.heap.size, 3, none⟩ = some (.bool false) := G.out.2.2.1.cell' (i := 3) rfl
              have a4 : X.cell? ⟨w.heap.size, 4, none⟩ = some (.bool false) := G.out.2.2.1.cell' (i := 4) rfl
              have a5 : X.cell? ⟨w.heap.size, 5, none⟩ = some (.bool false) := G.out.2.2.1.cell' (i := 5) rfl
              have a6 : X.cell? ⟨w.heap.size, 6, none⟩ = some (.bool false) := G.out.2.2.1.cell' (i := 6) rfl
              have a7 : X.cell? ⟨w.heap.size, 7, none⟩ = some (.bool false) := G.out.2.2.1.cell' (i := 7) rfl
              have a8 : X.cell? ⟨w.heap.size, 8, none⟩ = some (.int .i64 0) := G.out.2.2.1.cell' (i := 8) rfl
              have a9 : X.cell? ⟨w.heap.size, 9, none⟩ = some (.int .i64 0) := G.out.2.2.1.cell' (i := 9) rfl
              have b0 : X.cell? ⟨w.heap.size + 1, 0, none⟩ = some (.int .i64 0) := G.out.2.2.2.1.cell' (i := 0) rfl
              have b1 : X.cell? ⟨w.heap.size + 1, 1, none⟩ = some (.int .i64 0) := G.out.2.2.2.1.cell' (i := 1) rfl
              have f0 := G.out.2.2.1.frozen 0
              have f1 := G.out.2.2.1.frozen 1
              have f2 := G.out.2.2.1.frozen 2
              have f3 := G.out.2.2.1.frozen 3
              have f4 := G.out.2.2.1.frozen 4
              have f5 := G.out.2.2.1.frozen 5
              have f6 := G.out.2.2.1.frozen 6
              have f7 := G.out.2.2.1.frozen 7
              have f8 := G.out.2.2.1.frozen 8
              have f9 := G.out.2.2.1.frozen 9
              have f10 := G.out.2.2.2.1.frozen 0
              have f11 := G.out.2.2.2.1.frozen 1
              go_wp2_with (fail)
              have R1 := (lay10_same G.out.2.2.1 rfl (.bool false) (.bool false) (.bool false) (.bool false) (.bool false) (.bool false) (.bool false) (.bool false) (.int .i64 0) (.int .i64 0))
              refine bodyPost_ret (rparse_res w.heap.size (w.heap.size + 1) zeroF er (a : Int) _ _ rfl rfl ((R1.far (p := ⟨w.heap.size + 1, 0, none⟩) (by simp) _).far (p := ⟨w.heap.size + 1, 1, none⟩) (by simp) _) (((lay10_far G.out.2.2.2.1 (by simp) _ _ _ _ _ _ _ _ _ _).set_ 0 _).set_ 1 _)) rfl ?_
              refine ⟨by rw [hr.out], Below.setCell (Below.setCell ?_ (by simp) _) (by simp) _⟩
              exact G.out.2.2.2.2.trans ((lay10_x (BelowX.refl _ _ _) _ _ _ _ _ _ _ _ _ _).below (Nat.le_refl _) (Nat.le_refl _))
        · obtain ⟨c, hc⟩ : ∃ c, c = byS s i := ⟨_, rfl⟩
          have e1 := fun h' => get_byS s i h'
          have HB := Lib.hid hbc
          simp only [← hc] at e1 hbc
          have q2 : ((c : Int) != 44) = false := by simp; omega
          clear hc hbc
          go_wp2_with (fail)
          go_region_with (go_at_call 34; refine (rput st p hps _).mono ?_; rintro e W2 ⟨qq, hqq, rfl, h2⟩; have y1 := H.out.2.1.drew.call h2; have y2 := H.out.2.2.1.drew.call h2; have d0 : W2.cell? ⟨w.heap.size + 1 + 1, 0, none⟩ = some (.bool st.f.last) := y1.cell' (i := 0) rfl; have g0 := y1.frozen 0; have d1 : W2.cell? ⟨w.heap.size + 1 + 1, 1, none⟩ = some (.bool st.f.next) := y1.cell' (i := 1) rfl; have g1 := y1.frozen 1; have d2 : W2.cell? ⟨w.heap.size + 1 + 1, 2, none⟩ = some (.bool st.f.chain) := y1.cell' (i := 2) rfl; have g2 := y1.frozen 2; have d3 : W2.cell? ⟨w.heap.size + 1 + 1, 3, none⟩ = some (.bool st.f.fin) := y1.cell' (i := 3) rfl; have g3 := y1.frozen 3; have d4 : W2.cell? ⟨w.heap.size + 1 + 1, 4, none⟩ = some (.bool st.f.forb) := y1.cell' (i := 4) rfl; have g4 := y1.frozen 4; have d5 : W2.cell? ⟨w.heap.size + 1 + 1, 5, none⟩ = some (.bool st.f.gone) := y1.cell' (i := 5) rfl; have g5 := y1.frozen 5; have d6 : W2.cell? ⟨w.heap.size + 1 + 1, 6, none⟩ = some (.bool st.f.app) := y1.cell' (i := 6) rfl; have g6 := y1.frozen 6; have d7 : W2.cell? ⟨w.heap.size + 1 + 1, 7, none⟩ = some (.bool st.f.disc) := y1.cell' (i := 7) rfl; have g7 := y1.frozen 7; have d8 : W2.cell? ⟨w.heap.size + 1 + 1, 8, none⟩ = some (.int .i64 st.f.skip) := y1.cell' (i := 8) rfl; have g8 := y1.frozen 8; have d9 : W2.cell? ⟨w.heap.size + 1 + 1, 9, none⟩ = some (.int .i64 st.f.red) := y1.cell' (i := 9) rfl; have g9 := y1.frozen 9; have t0 : W2.cell? ⟨w.heap.size + 1 + 1 + 1, 0, none⟩ = some (.bool st.sk) := y2.cell' (i := 0) rfl; have t1 : W2.cell? ⟨w.heap.size + 1 + 1 + 1, 1, none⟩ = some (.bool st.rd) := y2.cell' (i := 1) rfl; have r0 := y2.frozen 0; have r1 := y2.frozen 1; have l1 := y1.lt; have l2 := y2.lt; have Y := Lib.hid (And.intro hqq (And.intro h2 (And.intro y1 y2))); clear hqq h2 y1 y2)
          all_goals
            have G := Lib.hid (set_put (q := qq) Y.out.2.2.1 Y.out.2.2.2 (H.out.2.2.2.1.drew.call Y.out.2.1) (H.out.2.2.2.2.1.drew.call Y.out.2.1) (gr_call (below_drewN H.out.2.2.2.2.2.1 1) Y.out.2.1))
            obtain ⟨X, hX⟩ : ∃ X, X = ((((((((((((W2.setCell ⟨w.heap.size + 1 + 1, 0, none⟩ (.bool qq.f.last)).setCell ⟨w.heap.size + 1 + 1, 1, none⟩ (.bool qq.f.next)).setCell ⟨w.heap.size + 1 + 1, 2, none⟩ (.bool qq.f.chain)).setCell ⟨w.heap.size + 1 + 1, 3, none⟩ (.bool qq.f.fin)).setCell ⟨w.heap.size + 1 + 1, 4, none⟩ (.bool qq.f.forb)).setCell ⟨w.heap.size + 1 + 1, 5, none⟩ (.bool qq.f.gone)).setCell ⟨w.heap.size + 1 + 1, 6, none⟩ (.bool qq.f.app)).setCell ⟨w.heap.size + 1 + 1, 7, none⟩ (.bool qq.f.disc)).setCell ⟨w.heap.size + 1 + 1, 8, none⟩ (.int .i64 qq.f.skip)).setCell ⟨w.heap.size + 1 + 1, 9, none⟩ (.int .i64 qq.f.red)).setCell ⟨w.heap.size + 1 + 1 + 1, 0, none⟩ (.bool qq.sk)).setCell ⟨w.heap.size + 1 + 1 + 1, 1, none⟩ (.bool qq.rd)) := ⟨_, rfl⟩
            rw [← hX] at G ⊢
            obtain ⟨er, her⟩ : ∃ er, er = (putP st p).2 := ⟨_, rfl⟩
            have HER := Lib.hid (And.intro her Y.out.1)
            rw [← her]
            clear hX d0 d1 d2 d3 d4 d5 d6 d7 d8 d9 g0 g1 g2 g3 g4 g5 g6 g7 g8 g9 t0 t1 r0 r1 l1 l2 Y c0 c1 c2 c3 c4 c5 c6 c7 c8 c9 s0 s1 hsl her
            have hz3 := G.out.2.1.lt
            by_cases he : er = 0
            · have q : (er != 0) = false := by simp; exact he
              have HE := Lib.hid he
              clear he
              go_wp2_with (fail)
              go_roundg (s.size - (i + 1))
              case measure => omega
              case rel =>
                have hq : qq = (putP st p).1 := HER.out.2 (by rw [← HER.out.1]; exact HE.out)
                have hz : (putP st p).2 = 0 := HER.out.1.symm.trans HE.out
                refine ⟨i + 1, i + 1, qq, by omega, by omega, by omega, by omega, by go_num, by go_num, by rw [hq]; exact put_ok H.out.2.2.2.2.2.2 p, ?_, ?_, G.out.1, G.out.2.1, G.out.2.2.1, G.out.2.2.2.1, G.out.2.2.2.2⟩
                · intro hi1
                  rw [H.out.1, show s.size - 1 - i = (s.size - 1 - (i + 1)) + 1 by omega, segs_hit HB.out, List.map_cons]
                  show runP (s.extract a i :: _) st a = _
                  rw [← HP.out]
                  conv => lhs; unfold runP
                  rw [if_pos hz, hq, show a + p.size + 1 = i + 1 by rw [HP.out, ext_len his]; omega]
                · intro hi1
                  exact absurd hi1 (by omega)
            · have q : (er != 0) = true := by simp; exact he
              have hr : Hid (doneR (runP (partsF s) zeroPut 1) = (zeroF, er, a)) := Lib.hid (by
                have hz : (putP st p).2 ≠ 0 := by rw [← HER.out.1]; exact he
                rw [H.out.1, show s.size - 1 - i = (s.size - 1 - (i + 1)) + 1 by omega, segs_hit HB.out, List.map_cons]
                show doneR (runP (s.extract a i :: _) st a) = _
                rw [← HP.out]
                conv => lhs; unfold runP
                rw [if_neg hz, ← HER.out.1]
                unfold doneR
                exact if_neg he)
              clear he
              have a0 : X.cell? ⟨w.heap.size, 0, none⟩ = some (.bool false) := G.out.2.2.1.cell' (i := 0) rfl
              have a1 : X.cell? ⟨w.heap.size, 1, none⟩ = some (.bool false) := G.out.2.2.1.cell' (i := 1) rfl
              have a2 : X.cell? ⟨w.heap.size, 2, none⟩ = some (.bool false) := G.out.2.2.1.cell' (i := 2) rfl
              have a3 : X.cell? ⟨w.heap.size, 3, none⟩ = some (.bool false) := G.out.2.2.1.cell' (i := 3) rfl
              have a4 : X.cell? ⟨w.heap.size, 4, none⟩ = some (.bool false) := G.out.2.2.1.cell' (i := 4) rfl
              have a5 : X.cell? ⟨w.heap.size, 5, none⟩ = some (.bool false) := G.out.2.2.1.cell' (i := 5) rfl
              have a6 : X.cell? ⟨w.heap.size, 6, none⟩ = some (.bool false) := G.out.2.2.1.cell' (i := 6) rfl
              have a7 : X.cell? ⟨w.heap.size, 7, none⟩ = some (.bool false) := G.out.2.2.1.cell' (i := 7) rfl
              have a8 : X.cell? ⟨w.heap.size, 8, none⟩ = some (.int .i64 0) := G.out.2.2.1.cell' (i := 8) rfl
              have a9 : X.cell? ⟨w.heap.size, 9, none⟩ = some (.int .i64 0) := G.out.2.2.1.cell' (i := 9) rfl
              have b0 : X.cell? ⟨w.heap.size + 1, 0, none⟩ = some (.int .i64 0) := G.out.2.2.2.1.cell' (i := 0) rfl
              have b1 : X.cell? ⟨w.heap.size + 1, 1, none⟩ = some (.int .i64 0) := G.out.2.2.2.1.cell' (i := 1) rfl
              have f0 := G.out.2.2.1.frozen 0
              have f1 := G.out.2.2.1.frozen 1
              have f2 := G.out.2.2.1.frozen 2
              have f3 := G.out.2.2.1.frozen 3
              have f4 := G.out.2.2.1.frozen 4
              have f5 := G.out.2.2.1.frozen 5
              have f6 := G.out.2.2.1.frozen 6
              have f7 := G.out.2.2.1.frozen 7
              have f8 := G.out.2.2.1.frozen 8
              have f9 := G.out.2.2.1.frozen 9
              have f10 := G.out.2.2.2.1.frozen 0
              have f11 := G.out.2.2.2.1.frozen 1
              go_wp2_with (fail)
              have R1 := (lay10_same G.out.2.2.1 rfl (.bool false) (.bool false) (.bool false) (.bool false) (.bool false) (.bool false) (.bool false) (.bool false) (.int .i64 0) (.int .i64 0))
              refine bodyPost_ret (rparse_res w.heap.size (w.heap.size + 1) zeroF er (a : Int) _ _ rfl rfl ((R1.far (p := ⟨w.heap.size + 1, 0, none⟩) (by simp) _).far (p := ⟨w.heap.size + 1, 1, none⟩) (by simp) _) (((lay10_far G.out.2.2.2.1 (by simp) _ _ _ _ _ _ _ _ _ _).set_ 0 _).set_ 1 _)) rfl ?_
              refine ⟨by rw [hr.out], Below.setCell (Below.setCell ?_ (by simp) _) (by simp) _⟩
              exact G.out.2.2.2.2.trans ((lay10_x (BelowX.refl _ _ _) _ _ _ _ _ _ _ _ _ _).below (Nat.le_refl _) (Nat.le_refl _))
    · obtain rfl : i = s.size := by omega
      obtain ⟨a', hr0⟩ := hend rfl
      have H := Lib.hid (And.intro hr0 (And.intro hbF (And.intro hbS (And.intro hbA (And.intro hbR (And.intro hbel hok))))))
      have hz := hbS.lt
      have hl : ¬ (s.size : Int) ≤ (s.size : Int) - 1 := by omega
      clear hrun hend hbF hbS hbA hbR hbel hok hr0
      have c0 : wr.cell? ⟨w.heap.size + 1 + 1, 0, none⟩ = some (.bool st.f.last) := H.out.2.1.cell' (i := 0) rfl
      have c1 : wr.cell? ⟨w.heap.size + 1 + 1, 1, none⟩ = some (.bool st.f.next) := H.out.2.1.cell' (i := 1) rfl
      have c2 : wr.cell? ⟨w.heap.size + 1 + 1, 2, none⟩ = some (.bool st.f.chain) := H.out.2.1.cell' (i := 2) rfl
      have c3 : wr.cell? ⟨w.heap.size + 1 + 1, 3, none⟩ = some (.bool st.f.fin) := H.out.2.1.cell' (i := 3) rfl
      have c4 : wr.cell? ⟨w.heap.size + 1 + 1, 4, none⟩ = some (.bool st.f.forb) := H.out.2.1.cell' (i := 4) rfl
      have c5 : wr.cell? ⟨w.heap.size + 1 + 1, 5, none⟩ = some (.bool st.f.gone) := H.out.2.1.cell' (i := 5) rfl
      have c6 : wr.cell? ⟨w.heap.size + 1 + 1, 6, none⟩ = some (.bool st.f.app) := H.out.2.1.cell' (i := 6) rfl
      have c7 : wr.cell? ⟨w.heap.size + 1 + 1, 7, none⟩ = some (.bool st.f.disc) := H.out.2.1.cell' (i := 7) rfl
      have c8 : wr.cell? ⟨w.heap.size + 1 + 1, 8, none⟩ = some (.int .i64 st.f.skip) := H.out.2.1.cell' (i := 8) rfl
      have c9 : wr.cell? ⟨w.heap.size + 1 + 1, 9, none⟩ = some (.int .i64 st.f.red) := H.out.2.1.cell' (i := 9) rfl
      have s0 : wr.cell? ⟨w.heap.size + 1 + 1 + 1, 0, none⟩ = some (.bool st.sk) := H.out.2.2.1.cell' (i := 0) rfl
      have s1 : wr.cell? ⟨w.heap.size + 1 + 1 + 1, 1, none⟩ = some (.bool st.rd) := H.out.2.2.1.cell' (i := 1) rfl
      go_wp2_with (fail)
      refine (rwhole st H.out.2.2.2.2.2.2 _).mono ?_
      rintro e W2 ⟨rfl, h2⟩
      clear c0 c1 c2 c3 c4 c5 c6 c7 c8 c9 s0 s1
      have K := Lib.hid (And.intro (H.out.2.1.call h2) (And.intro (H.out.2.2.2.1.call h2) (And.intro (H.out.2.2.2.2.1.call h2) (gr_call H.out.2.2.2.2.2.1 h2))))
      clear h2
      have hz2 := K.out.1.lt
      obtain ⟨er, her⟩ : ∃ er, er = wholeP st := ⟨_, rfl⟩
      have hr : Hid (doneR (runP (partsF s) zeroPut 1) = ((if er = 0 then st.f else zeroF), er, 0)) := Lib.hid (by rw [H.out.1, done_end, ← her])
      rw [← her]
      clear her
      have a0 : W2.cell? ⟨w.heap.size, 0, none⟩ = some (.bool false) := K.out.2.1.cell' (i := 0) rfl
      have a1 : W2.cell? ⟨w.heap.size, 1, none⟩ = some (.bool false) := K.out.2.1.cell' (i := 1) rfl
      have a2 : W2.cell? ⟨w.heap.size, 2, none⟩ = some (.bool false) := K.out.2.1.cell' (i := 2) rfl
      have a3 : W2.cell? ⟨w.heap.size, 3, none⟩ = some (.bool false) := K.out.2.1.cell' (i := 3) rfl
      have a4 : W2.cell? ⟨w.heap.size, 4, none⟩ = some (.bool false) := K.out.2.1.cell' (i := 4) rfl
      have a5 : W2.cell? ⟨w.heap.size, 5, none⟩ = some (.bool false) := K.out.2.1.cell' (i := 5) rfl
      have a6 : W2.cell? ⟨w.heap.size, 6, none⟩ = some (.bool false) := K.out.2.1.cell' (i := 6) rfl
      have a7 : W2.cell? ⟨w.heap.size, 7, none⟩ = some (.bool false) := K.out.2.1.cell' (i := 7) rfl
      have a8 : W2.cell? ⟨w.heap.size, 8, none⟩ = some (.int .i64 0) := K.out.2.1.cell' (i := 8) rfl
      have a9 : W2.cell? ⟨w.heap.size, 9, none⟩ = some (.int .i64 0) := K.out.2.1.cell' (i := 9) rfl
      have b0 : W2.cell? ⟨w.heap.size + 1, 0, none⟩ = some (.int .i64 0) := K.out.2.2.1.cell' (i := 0) rfl
      have b1 : W2.cell? ⟨w.heap.size + 1, 1, none⟩ = some (.int .i64 0) := K.out.2.2.1.cell' (i := 1) rfl
      have f0 := K.out.2.1.frozen 0
      have f1 := K.out.2.1.frozen 1
      have f2 := K.out.2.1.frozen 2
      have f3 := K.out.2.1.frozen 3
      have f4 := K.out.2.1.frozen 4
      have f5 := K.out.2.1.frozen 5
      have f6 := K.out.2.1.frozen 6
      have f7 := K.out.2.1.frozen 7
      have f8 := K.out.2.1.frozen 8
      have f9 := K.out.2.1.frozen 9
      have f10 := K.out.2.2.1.frozen 0
      have f11 := K.out.2.2.1.frozen 1
      by_cases he : er = 0
      · have q : (er != 0) = false := by simp; exact he
        have HE := Lib.hid he
        clear he
        have c0 : W2.cell? ⟨w.heap.size + 1 + 1, 0, none⟩ = some (.bool st.f.last) := K.out.1.cell' (i := 0) rfl
        have c1 : W2.cell? ⟨w.heap.size + 1 + 1, 1, none⟩ = some (.bool st.f.next) := K.out.1.cell' (i := 1) rfl
        have c2 : W2.cell? ⟨w.heap.size + 1 + 1, 2, none⟩ = some (.bool st.f.chain) := K.out.1.cell' (i := 2) rfl
        have c3 : W2.cell? ⟨w.heap.size + 1 + 1, 3, none⟩ = some (.bool st.f.fin) := K.out.1.cell' (i := 3) rfl
        have c4 : W2.cell? ⟨w.heap.size + 1 + 1, 4, none⟩ = some (.bool st.f.forb) := K.out.1.cell' (i := 4) rfl
        have c5 : W2.cell? ⟨w.heap.size + 1 + 1, 5, none⟩ = some (.bool st.f.gone) := K.out.1.cell' (i := 5) rfl
        have c6 : W2.cell? ⟨w.heap.size + 1 + 1, 6, none⟩ = some (.bool st.f.app) := K.out.1.cell' (i := 6) rfl
        have c7 : W2.cell? ⟨w.heap.size + 1 + 1, 7, none⟩ = some (.bool st.f.disc) := K.out.1.cell' (i := 7) rfl
        have c8 : W2.cell? ⟨w.heap.size + 1 + 1, 8, none⟩ = some (.int .i64 st.f.skip) := K.out.1.cell' (i := 8) rfl
        have c9 : W2.cell? ⟨w.heap.size + 1 + 1, 9, none⟩ = some (.int .i64 st.f.red) := K.out.1.cell' (i := 9) rfl
        go_wp2_with (fail)
        have R1 := (lay10_same K.out.2.1 rfl (.bool st.f.last) (.bool st.f.next) (.bool st.f.chain) (.bool st.f.fin) (.bool st.f.forb) (.bool st.f.gone) (.bool st.f.app) (.bool st.f.disc) (.int .i64 st.f.skip) (.int .i64 st.f.red))
        refine bodyPost_ret (rparse_res w.heap.size (w.heap.size + 1) st.f 0 0 _ _ rfl rfl ((R1.far (p := ⟨w.heap.size + 1, 0, none⟩) (by simp) _).far (p := ⟨w.heap.size + 1, 1, none⟩) (by simp) _) (((lay10_far K.out.2.2.1 (by simp) _ _ _ _ _ _ _ _ _ _).set_ 0 _).set_ 1 _)) rfl ?_
        refine ⟨by rw [hr.out, if_pos HE.out, HE.out] <;> rfl, Below.setCell (Below.setCell ?_ (by simp) _) (by simp) _⟩
        exact K.out.2.2.2.trans ((lay10_x (BelowX.refl _ _ _) _ _ _ _ _ _ _ _ _ _).below (Nat.le_refl _) (Nat.le_refl _))
      · have q : (er != 0) = true := by simp; exact he
        have HE := Lib.hid he
        clear he
        go_wp2_with (fail)
        have R1 := (lay10_same K.out.2.1 rfl (.bool false) (.bool false) (.bool false) (.bool false) (.bool false) (.bool false) (.bool false) (.bool false) (.int .i64 0) (.int .i64 0))
        refine bodyPost_ret (rparse_res w.heap.size (w.heap.size + 1) zeroF er 0 _ _ rfl rfl ((R1.far (p := ⟨w.heap.size + 1, 0, none⟩) (by simp) _).far (p := ⟨w.heap.size + 1, 1, none⟩) (by simp) _) (((lay10_far K.out.2.2.1 (by simp) _ _ _ _ _ _ _ _ _ _).set_ 0 _).set_ 1 _)) rfl ?_
        refine ⟨by rw [hr.out, if_neg HE.out] <;> rfl, Below.setCell (Below.setCell ?_ (by simp) _) (by simp) _⟩
        exact K.out.2.2.2.trans ((lay10_x (BelowX.refl _ _ _) _ _ _ _ _ _ _ _ _ _).below (Nat.le_refl _) (Nat.le_refl _))

theorem rparse (s : ByteArray) (hs : s.size ≤ 1000000) (w : World) : Calls Tryd.prog 11 #[.string s] w (ParsePost w (parseS s)) := by
  unfold parseS parseF
  by_cases h0 : s.size = 0
  · rw [if_pos h0]
    obtain rfl := empty_of_size h0
    exact rparse_empty w
  · rw [if_neg h0]
    by_cases h1 : byS s 0 = 91
    · rw [if_neg (by simp [h1])]
      by_cases h2 : s.size = 1
      · rw [if_pos h2]
        exact rparse_one s h2 h1 w
      · rw [if_neg h2]
        by_cases h3 : byS s (s.size - 1) = 93
        · rw [if_neg (by simp [h3])]
          exact rparse_main s (by omega) hs h1 h3 w
        · rw [if_pos h3]
          exact rparse_tail s (by omega) hs h1 h3 w
    · rw [if_pos h1]
      exact rparse_head s (by omega) hs h1 w
end Go.Proofs.YtlipjagdlpkjpaaDoor
