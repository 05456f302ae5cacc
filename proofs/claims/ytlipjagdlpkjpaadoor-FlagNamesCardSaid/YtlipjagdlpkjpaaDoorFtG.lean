/-
  flag.Parse, walked; conditions: the two tables lie as they are laid, a variable of the library is an int.
-/
import Derived.Test.YtlipjagdlpkjpaaDoorFtF
import Derived.Test.YtlipjagdlpkjpaaDoorSeg
namespace Go.Proofs.YtlipjagdlpkjpaaDoor
open Go.RowKit
set_option linter.unusedVariables false
set_option linter.unusedSimpArgs false

def ParsePost (w : World) (r : Flg × Int × Nat) (e : Ending) (W' : World) : Prop :=
  e = .returned (.tuple #[Value.agg #[Value.bool r.1.last, .bool r.1.next, .bool r.1.chain, .bool r.1.fin, .bool r.1.forb, .bool r.1.gone, .bool r.1.app, .bool r.1.disc, .int .i64 r.1.skip, .int .i64 r.1.red], .agg #[.int .i64 r.2.1, .int .i64 (r.2.2 : Int)]]) ∧ Below w.heap.size w W'

set_option maxRecDepth 100000 in
set_option maxHeartbeats 400000 in
theorem parse_res (A B : Nat) (f : Flg) (er a : Int) (tmps : Array Value) (w : World) (h2 : tmps.getD 2 undef = .pointer (some ⟨A, 0, none⟩)) (h3 : tmps.getD 3 undef = .pointer (some ⟨B, 0, none⟩))
    (hA : Blk w A 24 #[Value.bool f.last, .bool f.next, .bool f.chain, .bool f.fin, .bool f.forb, .bool f.gone, .bool f.app, .bool f.disc, .int .i64 f.skip, .int .i64 f.red]) (hB : Blk w B 27 #[.int .i64 er, .int .i64 a]) :
    (results Tryd.f10 tmps).run Tryd.prog w = .ok (.tuple #[Value.agg #[Value.bool f.last, .bool f.next, .bool f.chain, .bool f.fin, .bool f.forb, .bool f.gone, .bool f.app, .bool f.disc, .int .i64 f.skip, .int .i64 f.red], .agg #[.int .i64 er, .int .i64 a]]) w := by
  have a0 := hA.cell' (i := 0) rfl
  have a1 := hA.cell' (i := 1) rfl
  have a2 := hA.cell' (i := 2) rfl
  have a3 := hA.cell' (i := 3) rfl
  have a4 := hA.cell' (i := 4) rfl
  have a5 := hA.cell' (i := 5) rfl
  have a6 := hA.cell' (i := 6) rfl
  have a7 := hA.cell' (i := 7) rfl
  have a8 := hA.cell' (i := 8) rfl
  have a9 := hA.cell' (i := 9) rfl
  have b0 := hB.cell' (i := 0) rfl
  have b1 := hB.cell' (i := 1) rfl
  simp only [List.getElem_toArray, List.getElem_cons_zero, List.getElem_cons_succ] at a0 a1 a2 a3 a4 a5 a6 a7 a8 a9 b0 b1
  clear hA hB
  simp only [Array.getD_eq_getD_getElem?] at h2 h3
  simp [results, Tryd.results10, go_sem, h2, h3, a0, a1, a2, a3, a4, a5, a6, a7, a8, a9, b0, b1]
theorem parse_door {w W : World} {A B : Nat} {f : Flg} {er a : Int} {tmps : Array Value} {r : Flg × Int × Nat} (h2 : tmps.getD 2 undef = .pointer (some ⟨A, 0, none⟩)) (h3 : tmps.getD 3 undef = .pointer (some ⟨B, 0, none⟩))
    (hA : Blk W A 24 #[Value.bool f.last, .bool f.next, .bool f.chain, .bool f.fin, .bool f.forb, .bool f.gone, .bool f.app, .bool f.disc, .int .i64 f.skip, .int .i64 f.red]) (hB : Blk W B 27 #[.int .i64 er, .int .i64 a]) (hne : A ≠ B) (hb : Below w.heap.size w W) (hlA : w.heap.size ≤ A)
    (hr : r.1 = (if er = 0 then f else zeroF) ∧ r.2.1 = er ∧ (r.2.2 : Int) = a) :
    bodyPostD Tryd.prog Tryd.f10 (ParsePost w r) Exit.ret { tmps := tmps, defers := [{ target := .fn (.func 30) #[.pointer (some ⟨B, 0, none⟩), .pointer (some ⟨A, 0, none⟩)], args := #[] }] } W := by
  show Leaves _ _ _ _ _ _ _
  refine leaves_cons (f := 30) (args := #[.pointer (some ⟨B, 0, none⟩), .pointer (some ⟨A, 0, none⟩)]) (by simp) (by simp [go_sem]) ?_
  refine (dwipe A B f er a .returning W hA hB hne).mono ?_
  rintro e u' W' ⟨rfl, rfl, kA, kB, hx⟩
  refine ⟨_, parse_res A B _ er a tmps W' h2 h3 kA kB, ?_, ?_⟩
  · rw [hr.1, hr.2.1, hr.2.2]
  · exact hb.trans (hx.below (by exact hb.size) hlA)
/-- The two blocks of the results. -/
theorem two_blks (w : World) (er a : Int) : Blk ((w.alloc (.cells #[Value.bool zeroF.last, .bool zeroF.next, .bool zeroF.chain, .bool zeroF.fin, .bool zeroF.forb, .bool zeroF.gone, .bool zeroF.app, .bool zeroF.disc, .int .i64 zeroF.skip, .int .i64 zeroF.red] 24)).alloc (.cells #[.int .i64 er, .int .i64 a] 27)) w.heap.size 24 #[Value.bool zeroF.last, .bool zeroF.next, .bool zeroF.chain, .bool zeroF.fin, .bool zeroF.forb, .bool zeroF.gone, .bool zeroF.app, .bool zeroF.disc, .int .i64 zeroF.skip, .int .i64 zeroF.red] ∧
    Blk ((w.alloc (.cells #[Value.bool zeroF.last, .bool zeroF.next, .bool zeroF.chain, .bool zeroF.fin, .bool zeroF.forb, .bool zeroF.gone, .bool zeroF.app, .bool zeroF.disc, .int .i64 zeroF.skip, .int .i64 zeroF.red] 24)).alloc (.cells #[.int .i64 er, .int .i64 a] 27)) (w.heap.size + 1) 27 #[.int .i64 er, .int .i64 a] ∧
    Below w.heap.size w ((w.alloc (.cells #[Value.bool zeroF.last, .bool zeroF.next, .bool zeroF.chain, .bool zeroF.fin, .bool zeroF.forb, .bool zeroF.gone, .bool zeroF.app, .bool zeroF.disc, .int .i64 zeroF.skip, .int .i64 zeroF.red] 24)).alloc (.cells #[.int .i64 er, .int .i64 a] 27)) := by
  refine ⟨(Blk.new w _ _).alloc _, ?_, gr_alloc (gr_alloc (Below.refl _ _) _) _⟩
  have := Blk.new (w.alloc (.cells #[Value.bool zeroF.last, .bool zeroF.next, .bool zeroF.chain, .bool zeroF.fin, .bool zeroF.forb, .bool zeroF.gone, .bool zeroF.app, .bool zeroF.disc, .int .i64 zeroF.skip, .int .i64 zeroF.red] 24)) 27 #[.int .i64 er, .int .i64 a]
  rwa [show (w.alloc (.cells #[Value.bool zeroF.last, .bool zeroF.next, .bool zeroF.chain, .bool zeroF.fin, .bool zeroF.forb, .bool zeroF.gone, .bool zeroF.app, .bool zeroF.disc, .int .i64 zeroF.skip, .int .i64 zeroF.red] 24)).heap.size = w.heap.size + 1 by simp] at this

set_option maxRecDepth 100000 in
set_option maxHeartbeats 1000000 in
theorem fparse_empty (w : World) :
    Calls Tryd.prog 10 #[.string ⟨#[]⟩] w (ParsePost w (zeroF, 0, 0)) := by
  have hmf : ∀ (fn : Fn) (first cap : Array Value) (w : World), (Instr.makeFunc fn first cap).run Tryd.prog w = .ok (.func fn first cap) w := fun _ _ _ _ => rfl
  go_enter_defers Tryd.func10, Tryd.ntmps10
  go_wp2_with (fail)
  go_step3
  go_wp2_with (fail)
  go_region
  go_wp2_with (fail)
  rw [Exit.noGoto_ret]
  exact parse_door rfl rfl (two_blks w 0 0).1.drew (two_blks w 0 0).2.1.drew (by simp) (gr_drew (two_blks w 0 0).2.2) (Nat.le_refl _) ⟨rfl, rfl, rfl⟩

set_option maxRecDepth 100000 in
set_option maxHeartbeats 1000000 in
theorem fparse_head (s : ByteArray) (h0 : 0 < s.size) (hs : s.size ≤ 1000000) (h : byS s 0 ≠ 91) (w : World) :
    Calls Tryd.prog 10 #[.string s] w (ParsePost w (zeroF, 3, 0)) := by
  have hmf : ∀ (fn : Fn) (first cap : Array Value) (w : World), (Instr.makeFunc fn first cap).run Tryd.prog w = .ok (.func fn first cap) w := fun _ _ _ _ => rfl
  have hne := nonempty_b s (by omega)
  obtain ⟨d, hd⟩ : ∃ d, d = byS s 0 := ⟨_, rfl⟩
  have e0 := fun h' => get_byS s 0 h'
  simp only [← hd] at e0 h
  have q : ((d : Int) != 91) = true := by simp; omega
  clear hd h
  go_enter_defers Tryd.func10, Tryd.ntmps10
  go_wp2_with (fail)
  go_step3
  go_wp2_with (fail)
  rw [Exit.noGoto_ret]
  exact parse_door rfl rfl (two_blks w 3 0).1 (two_blks w 3 0).2.1 (by simp) (two_blks w 3 0).2.2 (Nat.le_refl _) ⟨rfl, rfl, rfl⟩

set_option maxRecDepth 100000 in
set_option maxHeartbeats 1000000 in
theorem fparse_one (s : ByteArray) (h0 : s.size = 1) (h : byS s 0 = 91) (w : World) :
    Calls Tryd.prog 10 #[.string s] w (ParsePost w (zeroF, 3, 1)) := by
  have hmf : ∀ (fn : Fn) (first cap : Array Value) (w : World), (Instr.makeFunc fn first cap).run Tryd.prog w = .ok (.func fn first cap) w := fun _ _ _ _ => rfl
  have hne := nonempty_b s (by omega)
  obtain ⟨d, hd⟩ : ∃ d, d = byS s 0 := ⟨_, rfl⟩
  have e0 := fun h' => get_byS s 0 h'
  simp only [← hd] at e0 h
  have q : ((d : Int) != 91) = false := by simp; omega
  have hs : s.size ≤ 1 := by omega
  have hs1 : 1 ≤ s.size := by omega
  have qs : ((s.size : Int) == 1) = true := by simp; omega
  clear hd h h0
  go_enter_defers Tryd.func10, Tryd.ntmps10
  go_wp2_with (fail)
  go_step3
  go_wp2_with (fail)
  rw [Exit.noGoto_ret]
  exact parse_door rfl rfl (two_blks w 3 1).1 (two_blks w 3 1).2.1 (by simp) (two_blks w 3 1).2.2 (Nat.le_refl _) ⟨rfl, rfl, rfl⟩

set_option maxRecDepth 100000 in
set_option maxHeartbeats 1000000 in
theorem fparse_tail (s : ByteArray) (h0 : 1 < s.size) (hs : s.size ≤ 1000000) (h : byS s 0 = 91) (h9 : byS s (s.size - 1) ≠ 93) (w : World) :
    Calls Tryd.prog 10 #[.string s] w (ParsePost w (zeroF, 3, s.size - 1)) := by
  have hmf : ∀ (fn : Fn) (first cap : Array Value) (w : World), (Instr.makeFunc fn first cap).run Tryd.prog w = .ok (.func fn first cap) w := fun _ _ _ _ => rfl
  have hne := nonempty_b s (by omega)
  obtain ⟨d, hd⟩ : ∃ d, d = byS s 0 := ⟨_, rfl⟩
  have e0 := fun h' => get_byS s 0 h'
  simp only [← hd] at e0 h
  have q : ((d : Int) != 91) = false := by simp; omega
  have qs : ((s.size : Int) == 1) = false := by simp; omega
  obtain ⟨z, hz⟩ : ∃ z, z = byS s (s.size - 1) := ⟨_, rfl⟩
  have e9 := fun h' => get_byS s (s.size - 1) h'
  simp only [← hz] at e9 h9
  have q9 : ((z : Int) != 93) = true := by simp; omega
  clear hd h hz h9
  go_enter_defers Tryd.func10, Tryd.ntmps10
  go_wp2_with (fail)
  go_step3
  go_wp2_with (fail)
  rw [Exit.noGoto_ret]
  exact parse_door rfl rfl (two_blks w 3 ((s.size : Int) - 1)).1 (two_blks w 3 ((s.size : Int) - 1)).2.1 (by simp) (two_blks w 3 ((s.size : Int) - 1)).2.2 (Nat.le_refl _) ⟨rfl, rfl, by show ((s.size - 1 : Nat) : Int) = _; omega⟩

end Go.Proofs.YtlipjagdlpkjpaaDoor
