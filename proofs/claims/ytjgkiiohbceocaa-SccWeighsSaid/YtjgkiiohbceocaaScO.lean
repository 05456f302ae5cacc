/-
  scc.made, walked; conditions: at most 1000000 edges.
-/
import Derived.Test.YtjgkiiohbceocaaScNc
import Derived.Test.YtjgkiiohbceocaaInx
import Derived.Deep.RegionWith
import Derived.Deep.LoopGhost
import Derived.Deep.RegionHeldLaw
import Derived.Deep.AppendLies
namespace Go.Proofs.Ytjgkiiohbceocaa
open Go.RowKit
set_option linter.unusedVariables false
set_option linter.unusedSimpArgs false

set_option maxRecDepth 100000 in
set_option maxHeartbeats 2000000 in
theorem made_err (n : Int) (l : List Edg) (hl : l.length ≤ 1000000) (A : Option Addr) (c : Nat) (w : World) (hA : Cells w A 2 l.length (edAt l)) (he : (chkG n l).1 ≠ 0) :
    Calls Try.prog 43 #[.agg #[.int .i64 n, .slice A l.length c]] w fun e w' => e = .returned (.tuple #[.pointer none, .int .i64 (chkG n l).1]) ∧ Below w.heap.size w w' := by
  have b0 := gr_alloc (Below.refl w.heap.size w) (.cells #[.int .i64 n, .slice A l.length c] 24)
  have hck := fun W hW => check_code n l hl A c W hW
  obtain ⟨E, hE⟩ : ∃ E, E = (chkG n l).1 := ⟨_, rfl⟩
  obtain ⟨K, hK⟩ : ∃ K : Int, K = ((chkG n l).2 : Int) := ⟨_, rfl⟩
  obtain ⟨ln, hln⟩ : ∃ ln, ln = l.length := ⟨_, rfl⟩
  rw [← hE] at he ⊢
  rw [← hE, ← hK, ← hln] at hck
  have H := Lib.hid (And.intro b0 (hA.below b0))
  rw [← hln] at H ⊢
  have H' := Lib.hid (And.intro hck hln)
  have he' : (E != 0) = true := by simpa using he
  clear b0 hA hck hE hK hln hl he
  go_enter Try.func43, Try.ntmps43
  go_wp2_with (fail)
  refine (H'.out.1 _ H.out.2).mono ?_
  rintro e W1 ⟨rfl, h1⟩
  have H1 := Lib.hid (gr_call H.out.1 h1)
  clear h1
  go_wp2_with (fail)
  go_ret2
  exact ⟨rfl, H1.out⟩

/-- What scc.made hands back. -/
structure MadeOk (W : World) (B : Nat) (bg bl : Nat) (n : Nat) (l : List Edg) (pv kv : Value) : Prop where
  gr : GrOk W bg bl n (relE l) pv kv
  parts : OwnLL W B pv (partsV n (rea n (relE l)))
  part : ∃ bp, kv = .slice (some ⟨bp, 0, none⟩) n n ∧ Blk W bp 3 (numC n (partI n (rea n (relE l))))

set_option maxRecDepth 100000 in
set_option maxHeartbeats 8000000 in
theorem made_code (n : Nat) (hn : n ≤ 64) (l : List Edg) (hl : l.length ≤ 1000000) (hv : ∀ e ∈ l, okEd n e) (he : (chkG n l).1 = 0) (A : Option Addr) (c : Nat) (w : World) (hA : Cells w A 2 l.length (edAt l)) :
    Calls Try.prog 43 #[.agg #[.int .i64 (n : Int), .slice A l.length c]] w fun e w' => ∃ bg bl pv kv, e = .returned (.tuple #[.pointer (some ⟨bg, 0, none⟩), .int .i64 0]) ∧ MadeOk w' w.heap.size bg bl n l pv kv ∧ Below w.heap.size w w' := by
  have hmk := fun W => mk_vec (t := 25) (z := .int .i64 0) Try.underlying25 infoInt rfl (by decide) n (by omega) W
  have hmf : ∀ (fn : Fn) (first cap : Array Value) (w : World), (Instr.makeFunc fn first cap).run Try.prog w = .ok (.func fn first cap) w := fun _ _ _ _ => rfl
  have b0 := gr_alloc (Below.refl w.heap.size w) (.cells #[.int .i64 (n : Int), .slice A l.length c] 24)
  have k0 := Blk.new w 24 #[.int .i64 (n : Int), .slice A l.length c]
  have hck := fun W hW => check_code n l hl A c W hW
  have hof0 := fun W hW => of_code n hn l hl hv A c W hW
  obtain ⟨K, hK⟩ : ∃ K : Int, K = ((chkG n l).2 : Int) := ⟨_, rfl⟩
  obtain ⟨ln, hln⟩ : ∃ ln, ln = l.length := ⟨_, rfl⟩
  rw [he, ← hK, ← hln] at hck
  have hw := relE_within hv
  have ht : Trans' (rea n (relE l)) := fun i j k h1 h2 => rea_trans hw h1 h2
  have H := Lib.hid (And.intro b0 (And.intro k0 (hA.below b0)))
  rw [← hln] at H ⊢
  have H' := Lib.hid (And.intro hck (And.intro hln (And.intro ht hw)))
  have hof : ∀ W, Cells W A 2 ln (edAt l) → Calls Try.prog 57 #[.agg #[.int .i64 (n : Int), .slice A ln c]] W fun e w' => ∃ g, e = .returned (.pointer (some ⟨g, 0, none⟩)) ∧ (W.heap.size ≤ g ∧ Blk w' g 79 (lnkC (relE l) (rea n (relE l)))) ∧ Below W.heap.size W w' := by
    intro W hW
    rw [hln] at hW ⊢
    refine (hof0 W hW).mono ?_
    rintro e W' ⟨g, h1, h0, h2, h3⟩
    exact ⟨g, h1, ⟨h0, h2⟩, h3⟩
  have HF := Lib.hid hof
  clear b0 k0 hA hck hK hln hof0 he hv ht hw hof
  go_enter Try.func43, Try.ntmps43
  go_wp2_with (fail)
  refine (H'.out.1 _ H.out.2.2).mono ?_
  rintro e W1 ⟨rfl, h1⟩
  have hbw : w.heap.size ≤ W1.heap.size := (gr_call H.out.1 h1).size
  have F := Lib.hid (And.intro (H.out.2.1.call h1) (And.intro (H.out.2.2.below h1) (gr_call H.out.1 h1)))
  have hof := HF.out
  clear h1 HF
  go_wp2_with (fail)
  refine wp_region_lateX 10 [] (fun d x v => match d with
      | 20 => v = (.agg #[.int .i64 (n : Int), .slice A ln c])
      | 21 => ∃ g, v = .pointer (some ⟨g, 0, none⟩) ∧ w.heap.size ≤ g ∧ Blk x g 79 (lnkC (relE l) (rea n (relE l)))
      | 22 => v = (.pointer (some ⟨w.heap.size, 0, none⟩))
      | 23 => v = .int .i64 (n : Int)
      | 24 => v = (.pointer (some ⟨w.heap.size, 0, none⟩))
      | 25 => v = .int .i64 (n : Int)
      | 26 => ∃ g, v = .slice (some ⟨g, 0, none⟩) n n ∧ w.heap.size ≤ g ∧ Blk x g 3 (numC n fun _ => 0)
      | 27 => ∃ g1 g2, v = .agg #[.pointer (some ⟨g1, 0, none⟩), .int .i64 (n : Int), .slice none 0 0, .slice (some ⟨g2, 0, none⟩) n n] ∧ (w.heap.size ≤ g1 ∧ Blk x g1 79 (lnkC (relE l) (rea n (relE l)))) ∧ w.heap.size ≤ g2 ∧ Blk x g2 3 (numC n fun _ => 0)
      | 28 => ∃ g0 g1 g2, v = .pointer (some ⟨g0, 0, none⟩) ∧ (w.heap.size ≤ g0 ∧ Blk x g0 69 #[.pointer (some ⟨g1, 0, none⟩), .int .i64 (n : Int), .slice none 0 0, .slice (some ⟨g2, 0, none⟩) n n]) ∧ (w.heap.size ≤ g1 ∧ Blk x g1 79 (lnkC (relE l) (rea n (relE l)))) ∧ w.heap.size ≤ g2 ∧ Blk x g2 3 (numC n fun _ => 0)
      | 6 => ∃ g, v = .pointer (some ⟨g, 0, none⟩) ∧ w.heap.size ≤ g ∧ Blk x g 64 #[.pointer none]
      | _ => v = .bool true) (by kernel_rfl) (by kernel_rfl) (by kernel_rfl) (by kernel_rfl) (by decide) ?stable ?dist ?steps ?fin
  case stable =>
    intro d x x' v hB h
    revert h
    split <;> intro h <;> first
      | exact h
      | (obtain ⟨g, h1, h2, h3⟩ := h
         exact ⟨g, h1, h2, h3.call hB⟩)
      | (obtain ⟨g1, g2, h0, ⟨h1, h2⟩, h3, h4⟩ := h
         exact ⟨g1, g2, h0, ⟨h1, h2.call hB⟩, h3, h4.call hB⟩)
      | (obtain ⟨g0, g1, g2, h0, ⟨h5, h6⟩, ⟨h1, h2⟩, h3, h4⟩ := h
         exact ⟨g0, g1, g2, h0, ⟨h5, h6.call hB⟩, ⟨h1, h2.call hB⟩, h3, h4.call hB⟩)
  case dist =>
    intro d hd
    cases hd
  case steps =>
    refine ⟨?_, ?_⟩
    · intro a w' hB hsz hbase hdeps K hK
      obtain ⟨ev, hev⟩ : ∃ ev, ev = a.eval := ⟨_, rfl⟩
      have hec : ∀ v, ev (.const v) = v := fun v => by rw [hev]; rfl
      have hef : ∀ f, ev (.func f) = .func (.func f) #[] #[] := fun f => by rw [hev]; rfl
      rw [← hev] at hbase hdeps
      have b1 : ev (.tmp 1) = (.pointer (some ⟨w.heap.size, 0, none⟩)) := (hbase 1 (by kernel_rfl))
      rw [if_pos (by kernel_rfl)]
      left
      have x0 : w'.cell? ⟨w.heap.size, 0, none⟩ = some (.int .i64 (n : Int)) := (F.out.1.call hB).cell' rfl
      have x1 : w'.cell? ⟨w.heap.size, 1, none⟩ = some (.slice A ln c) := (F.out.1.call hB).cell' rfl
      have xa : w.heap.size < w'.heap.size := (F.out.1.call hB).lt
      refine step_val (v := (.agg #[.int .i64 (n : Int), .slice A ln c])) (w' := w') ?_ (hK _ _ (Below.refl _ _) (by intro d hd; cases hd; exact rfl) (by intro d hd hm; cases hd; exact absurd hm (by decide)))
      rw [← hev]
      clear hK hdeps hbase hev
      simp only [execOp, hec, hef, b1]
      go_simp
    refine ⟨?_, ?_⟩
    · intro a w' hB hsz hbase hdeps K hK
      obtain ⟨ev, hev⟩ : ∃ ev, ev = a.eval := ⟨_, rfl⟩
      have hec : ∀ v, ev (.const v) = v := fun v => by rw [hev]; rfl
      have hef : ∀ f, ev (.func f) = .func (.func f) #[] #[] := fun f => by rw [hev]; rfl
      rw [← hev] at hbase hdeps
      have d20 : ev (.tmp 20) = .agg #[.int .i64 (n : Int), .slice A ln c] := hdeps 20 (of_decide_eq_true (by kernel_rfl))
      rw [if_pos (by kernel_rfl)]
      left
      refine step_enter (w' := w') (f := 57) (args := #[.agg #[.int .i64 (n : Int), .slice A ln c]]) ?_ ?_
      · rw [← hev]
        clear hK hdeps hbase hev
        simp only [execOp, hec, hef, d20]
        go_simp
      · refine (hof w' (F.out.2.1.below hB)).mono ?_
        rintro e W ⟨g, rfl, h1, h2⟩
        exact ⟨_, rfl, hK _ _ h2 (by intro d hd; cases hd; exact ⟨g, rfl, Nat.le_trans hbw (Nat.le_trans hB.size h1.1), h1.2⟩) (by intro d hd hm; cases hd; exact absurd hm (by decide))⟩
    refine ⟨?_, ?_⟩
    · intro a w' hB hsz hbase hdeps K hK
      obtain ⟨ev, hev⟩ : ∃ ev, ev = a.eval := ⟨_, rfl⟩
      have hec : ∀ v, ev (.const v) = v := fun v => by rw [hev]; rfl
      have hef : ∀ f, ev (.func f) = .func (.func f) #[] #[] := fun f => by rw [hev]; rfl
      rw [← hev] at hbase hdeps
      have b1 : ev (.tmp 1) = (.pointer (some ⟨w.heap.size, 0, none⟩)) := (hbase 1 (by kernel_rfl))
      rw [if_pos (by kernel_rfl)]
      left
      refine step_val (v := (.pointer (some ⟨w.heap.size, 0, none⟩))) (w' := w') ?_ (hK _ _ (Below.refl _ _) (by intro d hd; cases hd; exact rfl) (by intro d hd hm; cases hd; exact absurd hm (by decide)))
      rw [← hev]
      clear hK hdeps hbase hev
      simp only [execOp, hec, hef, b1]
      go_simp
    refine ⟨?_, ?_⟩
    · intro a w' hB hsz hbase hdeps K hK
      obtain ⟨ev, hev⟩ : ∃ ev, ev = a.eval := ⟨_, rfl⟩
      have hec : ∀ v, ev (.const v) = v := fun v => by rw [hev]; rfl
      have hef : ∀ f, ev (.func f) = .func (.func f) #[] #[] := fun f => by rw [hev]; rfl
      rw [← hev] at hbase hdeps
      have d22 : ev (.tmp 22) = (.pointer (some ⟨w.heap.size, 0, none⟩)) := hdeps 22 (of_decide_eq_true (by kernel_rfl))
      rw [if_pos (by kernel_rfl)]
      left
      have x0 : w'.cell? ⟨w.heap.size, 0, none⟩ = some (.int .i64 (n : Int)) := (F.out.1.call hB).cell' rfl
      have x1 : w'.cell? ⟨w.heap.size, 1, none⟩ = some (.slice A ln c) := (F.out.1.call hB).cell' rfl
      have xa : w.heap.size < w'.heap.size := (F.out.1.call hB).lt
      refine step_val (v := .int .i64 (n : Int)) (w' := w') ?_ (hK _ _ (Below.refl _ _) (by intro d hd; cases hd; exact rfl) (by intro d hd hm; cases hd; exact absurd hm (by decide)))
      rw [← hev]
      clear hK hdeps hbase hev
      simp only [execOp, hec, hef, d22]
      go_simp
    refine ⟨?_, ?_⟩
    · intro a w' hB hsz hbase hdeps K hK
      obtain ⟨ev, hev⟩ : ∃ ev, ev = a.eval := ⟨_, rfl⟩
      have hec : ∀ v, ev (.const v) = v := fun v => by rw [hev]; rfl
      have hef : ∀ f, ev (.func f) = .func (.func f) #[] #[] := fun f => by rw [hev]; rfl
      rw [← hev] at hbase hdeps
      have b1 : ev (.tmp 1) = (.pointer (some ⟨w.heap.size, 0, none⟩)) := (hbase 1 (by kernel_rfl))
      rw [if_pos (by kernel_rfl)]
      left
      refine step_val (v := (.pointer (some ⟨w.heap.size, 0, none⟩))) (w' := w') ?_ (hK _ _ (Below.refl _ _) (by intro d hd; cases hd; exact rfl) (by intro d hd hm; cases hd; exact absurd hm (by decide)))
      rw [← hev]
      clear hK hdeps hbase hev
      simp only [execOp, hec, hef, b1]
      go_simp
    refine ⟨?_, ?_⟩
    · intro a w' hB hsz hbase hdeps K hK
      obtain ⟨ev, hev⟩ : ∃ ev, ev = a.eval := ⟨_, rfl⟩
      have hec : ∀ v, ev (.const v) = v := fun v => by rw [hev]; rfl
      have hef : ∀ f, ev (.func f) = .func (.func f) #[] #[] := fun f => by rw [hev]; rfl
      rw [← hev] at hbase hdeps
      have d24 : ev (.tmp 24) = (.pointer (some ⟨w.heap.size, 0, none⟩)) := hdeps 24 (of_decide_eq_true (by kernel_rfl))
      rw [if_pos (by kernel_rfl)]
      left
      have x0 : w'.cell? ⟨w.heap.size, 0, none⟩ = some (.int .i64 (n : Int)) := (F.out.1.call hB).cell' rfl
      have x1 : w'.cell? ⟨w.heap.size, 1, none⟩ = some (.slice A ln c) := (F.out.1.call hB).cell' rfl
      have xa : w.heap.size < w'.heap.size := (F.out.1.call hB).lt
      refine step_val (v := .int .i64 (n : Int)) (w' := w') ?_ (hK _ _ (Below.refl _ _) (by intro d hd; cases hd; exact rfl) (by intro d hd hm; cases hd; exact absurd hm (by decide)))
      rw [← hev]
      clear hK hdeps hbase hev
      simp only [execOp, hec, hef, d24]
      go_simp
    refine ⟨?_, ?_⟩
    · intro a w' hB hsz hbase hdeps K hK
      obtain ⟨ev, hev⟩ : ∃ ev, ev = a.eval := ⟨_, rfl⟩
      have hec : ∀ v, ev (.const v) = v := fun v => by rw [hev]; rfl
      have hef : ∀ f, ev (.func f) = .func (.func f) #[] #[] := fun f => by rw [hev]; rfl
      rw [← hev] at hbase hdeps
      have d25 : ev (.tmp 25) = .int .i64 (n : Int) := hdeps 25 (of_decide_eq_true (by kernel_rfl))
      rw [if_pos (by kernel_rfl)]
      left
      refine step_val (v := .slice (some ⟨w'.heap.size, 0, none⟩) n n) (w' := w'.alloc (.cells (vecC n fun _ => .int .i64 0) 3)) ?_ (hK _ _ (gr_alloc (Below.refl _ _) _) (by intro d hd; cases hd; exact ⟨_, rfl, Nat.le_trans hbw hB.size, Blk.new _ _ _⟩) (by intro d hd hm; cases hd; exact absurd hm (by decide)))
      rw [← hev]
      clear hK hdeps hbase hev
      simp only [execOp, hec, hef, d25]
      go_simp
    refine ⟨?_, ?_⟩
    · intro a w' hB hsz hbase hdeps K hK
      obtain ⟨ev, hev⟩ : ∃ ev, ev = a.eval := ⟨_, rfl⟩
      have hec : ∀ v, ev (.const v) = v := fun v => by rw [hev]; rfl
      have hef : ∀ f, ev (.func f) = .func (.func f) #[] #[] := fun f => by rw [hev]; rfl
      rw [← hev] at hbase hdeps
      obtain ⟨g1, d21, h1, h2⟩ := hdeps 21 (of_decide_eq_true (by kernel_rfl))
      have d23 : ev (.tmp 23) = .int .i64 (n : Int) := hdeps 23 (of_decide_eq_true (by kernel_rfl))
      obtain ⟨g2, d26, h3, h4⟩ := hdeps 26 (of_decide_eq_true (by kernel_rfl))
      rw [if_pos (by kernel_rfl)]
      left
      refine step_val (v := .agg #[.pointer (some ⟨g1, 0, none⟩), .int .i64 (n : Int), .slice none 0 0, .slice (some ⟨g2, 0, none⟩) n n]) (w' := w') ?_ (hK _ _ (Below.refl _ _) (by intro q hq; cases hq; exact ⟨g1, g2, rfl, ⟨h1, h2⟩, h3, h4⟩) (by intro d hd hm; cases hd; exact absurd hm (by decide)))
      rw [← hev]
      clear h1 h2 h3 h4
      clear hK hdeps hbase hev
      simp only [execOp, hec, hef, d21, d23, d26]
      go_simp
    refine ⟨?_, ?_⟩
    · intro a w' hB hsz hbase hdeps K hK
      obtain ⟨ev, hev⟩ : ∃ ev, ev = a.eval := ⟨_, rfl⟩
      have hec : ∀ v, ev (.const v) = v := fun v => by rw [hev]; rfl
      have hef : ∀ f, ev (.func f) = .func (.func f) #[] #[] := fun f => by rw [hev]; rfl
      rw [← hev] at hbase hdeps
      obtain ⟨g1, g2, d27, ⟨h1, h2⟩, h3, h4⟩ := hdeps 27 (of_decide_eq_true (by kernel_rfl))
      rw [if_pos (by kernel_rfl)]
      left
      refine step_val (v := .pointer (some ⟨w'.heap.size, 0, none⟩)) (w' := w'.alloc (.cells #[.pointer (some ⟨g1, 0, none⟩), .int .i64 (n : Int), .slice none 0 0, .slice (some ⟨g2, 0, none⟩) n n] 69)) ?_ (hK _ _ (gr_alloc (Below.refl _ _) _) (by intro q hq; cases hq; exact ⟨_, g1, g2, rfl, ⟨Nat.le_trans hbw hB.size, Blk.new _ _ _⟩, ⟨h1, h2.alloc _⟩, h3, h4.alloc _⟩) (by intro d hd hm; cases hd; exact absurd hm (by decide)))
      rw [← hev]
      clear h1 h2 h3 h4
      clear hK hdeps hbase hev
      simp only [execOp, hec, hef, d27]
      go_simp
    refine ⟨?_, ?_⟩
    · intro a w' hB hsz hbase hdeps K hK
      obtain ⟨ev, hev⟩ : ∃ ev, ev = a.eval := ⟨_, rfl⟩
      have hec : ∀ v, ev (.const v) = v := fun v => by rw [hev]; rfl
      have hef : ∀ f, ev (.func f) = .func (.func f) #[] #[] := fun f => by rw [hev]; rfl
      rw [← hev] at hbase hdeps
      rw [if_pos (by kernel_rfl)]
      left
      refine step_val (v := .pointer (some ⟨w'.heap.size, 0, none⟩)) (w' := w'.alloc (.cells #[.pointer none] 64)) ?_ (hK _ _ (gr_alloc (Below.refl _ _) _) (by intro d hd; cases hd; exact ⟨_, rfl, Nat.le_trans hbw hB.size, Blk.new _ _ _⟩) (by intro d hd hm; cases hd; exact absurd hm (by decide)))
      rw [← hev]
      clear hK hdeps hbase hev
      simp only [execOp, hec, hef]
      go_simp
    exact trivial

  case fin =>
    intro a X hB hsz hdef hbase hS _
    have v20 : a.eval (.tmp 20) = (.agg #[.int .i64 (n : Int), .slice A ln c]) := hS _ (List.mem_of_getElem? (i := 0) rfl) 20 rfl
    obtain ⟨g21, v21, p21, q21⟩ := hS _ (List.mem_of_getElem? (i := 1) rfl) 21 rfl
    have v22 : a.eval (.tmp 22) = (.pointer (some ⟨w.heap.size, 0, none⟩)) := hS _ (List.mem_of_getElem? (i := 2) rfl) 22 rfl
    have v23 : a.eval (.tmp 23) = .int .i64 (n : Int) := hS _ (List.mem_of_getElem? (i := 3) rfl) 23 rfl
    have v24 : a.eval (.tmp 24) = (.pointer (some ⟨w.heap.size, 0, none⟩)) := hS _ (List.mem_of_getElem? (i := 4) rfl) 24 rfl
    have v25 : a.eval (.tmp 25) = .int .i64 (n : Int) := hS _ (List.mem_of_getElem? (i := 5) rfl) 25 rfl
    obtain ⟨g26, v26, p26, q26⟩ := hS _ (List.mem_of_getElem? (i := 6) rfl) 26 rfl
    obtain ⟨ga, gb, v27, _⟩ := hS _ (List.mem_of_getElem? (i := 7) rfl) 27 rfl
    obtain ⟨bg, bl, bp, v28, ⟨lg, hgr⟩, ⟨ll, hln⟩, lp, hpt⟩ := hS _ (List.mem_of_getElem? (i := 8) rfl) 28 rfl
    obtain ⟨bv, v6, lv, hvr⟩ := hS _ (List.mem_of_getElem? (i := 9) rfl) 6 rfl
    have ha := act_overX [(20, (.agg #[.int .i64 (n : Int), .slice A ln c])), (21, .pointer (some ⟨g21, 0, none⟩)), (22, (.pointer (some ⟨w.heap.size, 0, none⟩))), (23, .int .i64 (n : Int)), (24, (.pointer (some ⟨w.heap.size, 0, none⟩))), (25, .int .i64 (n : Int)), (26, .slice (some ⟨g26, 0, none⟩) n n), (27, .agg #[.pointer (some ⟨ga, 0, none⟩), .int .i64 (n : Int), .slice none 0 0, .slice (some ⟨gb, 0, none⟩) n n]), (28, .pointer (some ⟨bg, 0, none⟩)), (6, .pointer (some ⟨bv, 0, none⟩))] hsz hdef hbase (by kernel_rfl) ⟨v20, v21, v22, v23, v24, v25, v26, v27, v28, v6, trivial⟩
    have hb2 := gr_call F.out.2.2 hB
    have Z := Lib.hid (And.intro hb2 (And.intro hgr (And.intro hln (And.intro hpt hvr))))
    have cv0 := hvr.cell' (i := 0) rfl
    have cvf := hvr.frozen 0
    have cvl := hvr.lt
    clear hsz hdef hbase hS v20 v21 v22 v23 v24 v25 v26 v27 v28 v6 hb2 hgr hln hpt hvr hof
    subst ha
    simp only [List.drop, putAll]
    simp (config := {decide := false}) only [Act.put, List.setIfInBounds_toArray, List.set_cons_zero, List.set_cons_succ]
    go_wp2_with (fail)
    have hX3 : Below w.heap.size w (X.setCell ⟨bv, 0, none⟩ (.pointer (some ⟨bg, 0, none⟩))) := gr_set Z.out.1 lv _
    have hgo : GrOk (X.setCell ⟨bv, 0, none⟩ (.pointer (some ⟨bg, 0, none⟩))) bg bl n (relE l) (.slice none 0 0) (.slice (some ⟨bp, 0, none⟩) n n) :=
      ⟨Z.out.2.1.far (Z.out.2.1.ne_ Z.out.2.2.2.2 (by decide)) _, Z.out.2.2.1.far (Z.out.2.2.1.ne_ Z.out.2.2.2.2 (by decide)) _⟩
    have hbp : Blk (X.setCell ⟨bv, 0, none⟩ (.pointer (some ⟨bg, 0, none⟩))) bp 3 (numC n fun _ => 0) := Z.out.2.2.2.1.far (Z.out.2.2.2.1.ne_ Z.out.2.2.2.2 (by decide)) _
    have hbv : Blk (X.setCell ⟨bv, 0, none⟩ (.pointer (some ⟨bg, 0, none⟩))) bv 64 #[.pointer (some ⟨bg, 0, none⟩)] := Z.out.2.2.2.2.set_ 0 _
    obtain ⟨X3, hx3⟩ : ∃ X3, X3 = X.setCell ⟨bv, 0, none⟩ (.pointer (some ⟨bg, 0, none⟩)) := ⟨_, rfl⟩
    rw [← hx3] at hX3 hgo hbp hbv ⊢
    clear hx3 Z cv0 cvf cvl p21 q21 p26 q26
    refine (components_code n hn (relE l) H'.out.2.2.2 bg bl _ _ X3 hgo).mono ?_
    rintro e W2 ⟨v, rfl, ⟨vs, ho1, ho2⟩, h2⟩
    obtain ⟨V, hV1, hV2, hV3⟩ := inn_map (LeftOk.roots n (rea n (relE l))).nodup ho2
    subst hV1
    rw [List.length_map] at ho1
    have hal := gr_alloc (Below.refl W2.heap.size W2) (.cells #[v] 41)
    have hlp : LpOk (W2.alloc (.cells #[v] 41)) X3.heap.size n (relE l) W2.heap.size bv bg bl bp V (pf (rea n (relE l)) []) (roots n (rea n (relE l))) [] v (.slice none 0 0) := by
      refine LpOk.below (W := W2.alloc (.cells #[v] 41)) ⟨LeftOk.roots _ _, ?_, (hgo.gr.call h2).alloc _, (hgo.ln.call h2).alloc _, ?_, (hbv.call h2).alloc _, Blk.new _ _ _, ?_, World.ownsRow_nil _ _ _ _, fun g _ => by simp [Value.ownBlock], fun r hr => own_below (hV2 r hr) hal (Nat.le_refl _), hbp.lt⟩ (Below.refl _ _)
      · unfold partsR
        rw [List.nil_append, ordR_fuel H'.out.2.2.1 n _ (LeftOk.roots _ _) (roots_len _ _)]
      · rw [numC_congr (f := pf (rea n (relE l)) []) (g := fun _ => 0) (fun j _ => rfl)]
        exact (hbp.call h2).alloc _
      · exact own_below ho1 hal (Nat.le_refl _)
    have hbel := gr_alloc (gr_call hX3 h2) (.cells #[v] 41)
    have hX3s := h2.size
    have hvl := own_slice ho1
    have Y := Lib.hid (And.intro hlp (And.intro hbel (And.intro hV3 hX3.size)))
    clear hX3 hgo hbp hbv ho1 ho2 h2 hV2 hal hlp hbel hV3
    obtain ⟨va, vc, rfl⟩ := hvl
    go_wp2_with (fail)
    go_loopg [] (roots n (rea n (relE l))).length (fun m wr => ∃ left ps lv vp, m = left.length ∧ LpOk wr X3.heap.size n (relE l) W2.heap.size bv bg bl bp V (pf (rea n (relE l)) ps) left ps lv vp ∧ Below w.heap.size w wr)
    case atStart => exact ⟨_, _, _, _, rfl, Y.out.1, Y.out.2.1⟩
    case round =>
      obtain ⟨left, ps, lv, vp, hm, hlp, hbel⟩ := hrel
      have hll : left.length ≤ 64 := by
        have h1 := ordR_len H'.out.2.2.1 _ _ hlp.lo (Nat.le_refl _)
        have h2 := partsR_len H'.out.2.2.1 (n := n)
        rw [hlp.eq, List.length_append, h1] at h2
        omega
      have hpl : ps.length ≤ 64 := by
        have h2 := partsR_len H'.out.2.2.1 (n := n)
        rw [hlp.eq, List.length_append] at h2
        omega
      have cL := hlp.lvr.cell' (i := 0) rfl
      have lL := hlp.lvr.lt
      have cV := hlp.var.cell' (i := 0) rfl
      have lV := hlp.var.lt
      by_cases hne : left = []
      · subst hne
        obtain ⟨la, lc, rfl⟩ := own_slice hlp.lrow
        have B := Lib.hid (And.intro hlp hbel)
        clear hlp hbel
        go_wp2_with (fail)
        go_ret2
        obtain ⟨e1, e2⟩ := B.out.1.ends H'.out.2.2.1 Y.out.2.2.2
        refine ⟨bg, bl, vp, _, rfl, ⟨⟨B.out.1.gr, B.out.1.ln⟩, e1, bp, rfl, ?_⟩, B.out.2⟩
        unfold partI
        rw [e2]
        exact B.out.1.pt
      · obtain ⟨gl, cap, cur, rfl, hgB, hgl, hcap, hmx, hcs, htk⟩ := hlp.row hne
        have hlp1 : 0 < (left.length : Int) := by have := List.length_pos_iff.2 hne; omega
        have hcl := row_cellsV (V := V) hgl htk rfl
        have hidx : Calls Try.prog 62 #[.slice (some ⟨gl, 0, none⟩) left.length cap, .func (.func 59) #[] #[.pointer (some ⟨W2.heap.size, 0, none⟩), .pointer (some ⟨bv, 0, none⟩)]] wr fun e w' =>
            (∃ k r, k < left.length ∧ e = .returned (.int .i64 (k : Int)) ∧ left[k]? = some r ∧ left.find? (freeR (rea n (relE l)) left) = some r) ∧ Below wr.heap.size wr w' := by
          have h0 := idx_free (left.map V) (fun k => freeR (rea n (relE l)) left ((left[k]?).getD 0)) gl cap ⟨W2.heap.size, 0, none⟩ ⟨bv, 0, none⟩ wr (by rw [List.length_map]; omega) hgl.lt hcl (by
            intro k u W hu hW
            have hk : k < left.length := by have := (List.getElem?_eq_some_iff.1 hu).1; rwa [List.length_map] at this
            have he : left[k]? = some left[k] := List.getElem?_eq_getElem hk
            have hlW := hlp.below hW
            obtain ⟨g, m, c', rfl, hm0, hgs, hc⟩ := hlW.heads.at_ k u _ hu he
            rw [he, Option.getD_some]
            have hls : ∀ r ∈ left, r < 64 := fun r hr => by have := hlp.lo.lt r hr; omega
            refine free_code n hn (relE l) bg bl W2.heap.size bv gl cap g m c' _ vp _ (left.map V) left W ⟨hlW.gr, hlW.ln⟩ hm0 (hls _ (List.getElem_mem hk)) hc hgs ?_ hlW.lvr.lt (hlW.var.cell' rfl) hlW.var.lt (by rw [List.length_map]; omega) ((hgl.call hW).lt) (row_cellsV (V := V) (hgl.call hW) htk rfl) hlW.heads hls
            rw [List.length_map]
            exact hlW.lvr.cell' rfl)
          rw [List.length_map] at h0
          refine h0.mono ?_
          rintro e w' ⟨h1, h2⟩
          refine ⟨?_, h2⟩
          rcases h1 with ⟨k, hk, he, hp, hj⟩ | ⟨_, hno⟩
          · have hr : left[k]? = some left[k] := List.getElem?_eq_getElem hk
            rw [hr, Option.getD_some] at hp
            refine ⟨k, left[k], hk, he, hr, find_at hr hp (fun j hjk s hs => ?_)⟩
            have := hj j hjk
            rwa [hs, Option.getD_some] at this
          · exfalso
            obtain ⟨r, h3, h4, h5⟩ := find_free H'.out.2.2.1 hne hlp.lo.one
            obtain ⟨j, hj⟩ := List.mem_iff_getElem?.1 h4
            have := hno j (List.getElem?_eq_some_iff.1 hj).1
            rw [hj, Option.getD_some, h5] at this
            cases this
        have B := Lib.hid (And.intro hlp (And.intro hbel (And.intro hidx (And.intro hgl htk))))
        have hne' := Lib.hid hne
        clear hlp hbel hidx hcl hgl htk hne
        go_wp2_with (fail)
        refine (B.out.2.2.1).mono ?_
        rintro e W3 ⟨⟨k, r, hk, rfl, hr, hfind⟩, h3⟩
        have hlp3 := B.out.1.below h3
        have hbel3 := gr_call B.out.2.1 h3
        have hgl3 := B.out.2.2.2.1.call h3
        have hro := hlp3.roots_of H'.out.2.2.1 (.inr (List.mem_of_getElem? hr))
        obtain ⟨gr, rc, hVr, hgrB, hgrl, hcm⟩ := hlp3.comp hro
        have ck : W3.cell? ⟨gl, k, none⟩ = some (.slice (some ⟨gr, 0, none⟩) (mem_ n (rea n (relE l)) r).length rc) := by
          rw [← hVr]
          exact row_cellsV (V := V) hgl3 B.out.2.2.2.2 rfl k (V r) (by rw [List.getElem?_map, hr]; rfl)
        have hk' : (k : Int) < (left.length : Int) := by omega
        have cL3 := hlp3.lvr.cell' (i := 0) rfl
        have lL3 := hlp3.lvr.lt
        have lg3 := hgl3.lt
        obtain ⟨ml, hml⟩ : ∃ ml, ml = (mem_ n (rea n (relE l)) r).length := ⟨_, rfl⟩
        have hmll : ml ≤ 64 := by rw [hml]; have := mem_len n (rea n (relE l)) r; omega
        rw [← hml] at ck hVr
        have D := Lib.hid (And.intro hlp3 (And.intro hbel3 (And.intro hr (And.intro hfind (And.intro hro (And.intro hVr hml))))))
        clear hlp3 hbel3 hgl3 hr hfind hro hVr hcm h3 hml
        go_wp2_with (fail)
        go_loopg [43] ml (fun q jv wr => ∃ j : Nat, q = ml - j ∧ j ≤ ml ∧ jv = .int .i64 (j : Int) ∧ LpOk wr X3.heap.size n (relE l) W2.heap.size bv bg bl bp V (pfJ (rea n (relE l)) ps (mem_ n (rea n (relE l)) r) j) left ps (.slice (some ⟨gl, 0, none⟩) left.length cap) vp ∧ Below w.heap.size w wr)
        case atStart =>
          refine ⟨0, rfl, Nat.zero_le _, rfl, ?_, D.out.2.1⟩
          rw [show pfJ (rea n (relE l)) ps (mem_ n (rea n (relE l)) r) 0 = pf (rea n (relE l)) ps from funext fun k => pfJ_zero _ _ _ k]
          exact D.out.1
        case round =>
          obtain ⟨j, hq, hj, rfl, hlp, hbel⟩ := hrel
          have c1 := hlp.var.cell' (i := 0) rfl
          have l1 := hlp.var.lt
          have c2 := hlp.gr.cell' (i := 2) rfl
          have c3 := hlp.gr.cell' (i := 3) rfl
          have l2 := hlp.gr.lt
          have cLi := hlp.lvr.cell' (i := 0) rfl
          have lLi := hlp.lvr.lt
          by_cases hjm : j < ml
          · obtain ⟨x, hx⟩ : ∃ x, (mem_ n (rea n (relE l)) r)[j]? = some x := ⟨_, List.getElem?_eq_getElem (by rw [← D.out.2.2.2.2.2.2]; exact hjm)⟩
            have hxn : x < n := (mem_mem.1 (List.mem_of_getElem? hx)).1
            have hxn' : (x : Int) < (n : Int) := by omega
            obtain ⟨gr', rc', hVr', _, hgrl', hcm⟩ := hlp.comp D.out.2.2.2.2.1
            rw [D.out.2.2.2.2.2.1] at hVr'
            obtain rfl : gr = gr' := by injection hVr' with h; injection h with h; injection h
            have cx := hcm j x hx
            have cp := hlp.pt.cell' (vecC_at (fun k => .int .i64 ((pfJ (rea n (relE l)) ps (mem_ n (rea n (relE l)) r) j k : Nat) : Int)) hxn)
            have fp := hlp.pt.frozen x
            have lp2 := hlp.pt.lt
            obtain ⟨pa, pc, rfl⟩ := own_slice hlp.prow
            have hj' : (j : Int) < (ml : Int) := by omega
            have C := Lib.hid (And.intro hlp (And.intro hbel (And.intro hx hq)))
            clear hlp hbel hx hcm hVr' hq
            go_wp2_with (fail)
            go_region
            go_wp2_with (fail)
            go_roundg (ml - (j + 1))
            case measure => have := C.out.2.2.2; omega
            case rel =>
              have hb := gr_set C.out.2.1 (p := ⟨bp, x, none⟩) lp (.int .i64 (ps.length : Int))
              exact ⟨j + 1, rfl, hjm, rfl, (C.out.1.setPt hxn (pfJ_set C.out.2.2.1) (fun k _ hk => pfJ_far C.out.2.2.1 hk)).drew, ⟨hb.os, hb.tape, hb.output, hb.size, hb.block⟩⟩
          · have ej : j = ml := by omega
            subst j
            have hpt : numC n (pfJ (rea n (relE l)) ps (mem_ n (rea n (relE l)) r) ml) = numC n (pf (rea n (relE l)) (ps ++ [r])) := by
              refine numC_congr (fun k hk => ?_)
              rw [D.out.2.2.2.2.2.2]
              exact pfJ_end hk (fun k hk => D.out.1.apart H'.out.2.2.1 (List.mem_of_getElem? D.out.2.2.1) hk)
            obtain ⟨pa, pc, rfl⟩ := own_slice hlp.prow
            have hlrow := hlp.lrow
            obtain ⟨gl', cap', cur', hlv', hgB', hgl', hcap', hmx', hcs', htk'⟩ := hlp.row hne'.out
            obtain rfl : gl = gl' := by injection hlv' with h; injection h with h; injection h
            obtain rfl : cap = cap' := by injection hlv'
            have ck' : wr.cell? ⟨gl, k, none⟩ = some (.slice (some ⟨gr, 0, none⟩) ml rc) := by
              rw [← D.out.2.2.2.2.2.1]
              exact row_cellsV (V := V) hgl' htk' rfl k (V r) (by rw [List.getElem?_map, D.out.2.2.1]; rfl)
            have lgl := hgl'.lt
            obtain ⟨i0, hi0, hz0, hz1, hz2⟩ := info_parts infoInts
            have hown := (hlp.prow.alloc (.cells #[.slice (some ⟨gr, 0, none⟩) ml rc] 25)).drew
            have hsz : X3.heap.size ≤ (wr.alloc (.cells #[.slice (some ⟨gr, 0, none⟩) ml rc] 25)).drew.heap.size := by
              have := hlp.lt
              have h1 : X3.heap.size ≤ gl := hgB'
              simp; omega
            have nbv : Value.ownBlock (.slice pa ps.length pc) ≠ some bv := fun e => own_blk_ne hlp.prow hlp.var (by decide) e.symm
            have nbg : Value.ownBlock (.slice pa ps.length pc) ≠ some bg := fun e => own_blk_ne hlp.prow hlp.gr (by decide) e.symm
            have nbL : Value.ownBlock (.slice pa ps.length pc) ≠ some W2.heap.size := fun e => own_blk_ne hlp.prow hlp.lvr (by decide) e.symm
            have ngl : Value.ownBlock (.slice pa ps.length pc) ≠ some gl := hlp.ne gl rfl
            have fbg := hlp.gr.frozen 2
            have n1 : bg ≠ bv := hlp.gr.ne_ hlp.var (by decide)
            have n2 : bg ≠ W2.heap.size := hlp.gr.ne_ hlp.lvr (by decide)
            have n3 : bg ≠ gl := hlp.gr.ne_ hgl' (by decide)
            have lV' := hlp.var.lt
            have lg' := hlp.gr.lt
            have lL' := hlp.lvr.lt
            have C := Lib.hid (And.intro hlp (And.intro hbel (And.intro hpt (And.intro hgl' (And.intro htk' hq)))))
            clear hlp hbel hpt hlrow hgl' htk' hq hlv'
            go_wp2_with (fail)
            refine wp_region_held_drew (S := (fun w' => w'.cell? ⟨bv, 0, none⟩ = some (.pointer (some ⟨bg, 0, none⟩)) ∧ w'.cell? ⟨W2.heap.size, 0, none⟩ = some (.slice (some ⟨gl, 0, none⟩) left.length cap) ∧ w'.cell? ⟨gl, k, none⟩ = some (.slice (some ⟨gr, 0, none⟩) ml rc) ∧ w'.frozen? ⟨bg, 2, none⟩ = false)) (by kernel_rfl) ⟨by simpa using c1, by simpa using cLi, by simpa using ck', fbg⟩ (fun hHeld => ?_)
            refine wpAnyH_take (i := 0) (v := .pointer (some ⟨bg, 0, none⟩)) rfl (by kernel_rfl) (by kernel_rfl) (by kernel_rfl) (fun _ _ _ h => h) (Or.inl ⟨by rfl, ?_⟩) (by assumption) ?_
            · intro wz hSw
              obtain ⟨hs0, hs1, hs2, hs3⟩ := hSw
              go_simp
            simp only [Act.put, List.setIfInBounds_toArray, List.set_cons_zero, List.set_cons_succ]
            refine wpAnyH_take (i := 1) (v := .pointer (some ⟨bg, 0, none⟩)) rfl (by kernel_rfl) (by kernel_rfl) (by kernel_rfl) (fun _ _ _ h => h) (Or.inl ⟨by rfl, ?_⟩) (by assumption) ?_
            · intro wz hSw
              obtain ⟨hs0, hs1, hs2, hs3⟩ := hSw
              go_simp
            simp only [Act.put, List.setIfInBounds_toArray, List.set_cons_zero, List.set_cons_succ]
            refine wpAnyH_take (i := 2) (v := .pointer (some ⟨bg, 0, none⟩)) rfl (by kernel_rfl) (by kernel_rfl) (by kernel_rfl) (fun _ _ _ h => h) (Or.inl ⟨by rfl, ?_⟩) (by assumption) ?_
            · intro wz hSw
              obtain ⟨hs0, hs1, hs2, hs3⟩ := hSw
              go_simp
            simp only [Act.put, List.setIfInBounds_toArray, List.set_cons_zero, List.set_cons_succ]
            refine wpAnyH_take (i := 3) (v := .pointer (some ⟨bg, 2, none⟩)) rfl (by kernel_rfl) (by kernel_rfl) (by kernel_rfl) (fun _ _ _ h => h) (Or.inl ⟨by rfl, ?_⟩) (by assumption) ?_
            · intro wz hSw
              obtain ⟨hs0, hs1, hs2, hs3⟩ := hSw
              go_simp
            simp only [Act.put, List.setIfInBounds_toArray, List.set_cons_zero, List.set_cons_succ]
            refine wpAnyH_take (i := 5) (v := .slice (some ⟨gl, 0, none⟩) left.length cap) rfl (by kernel_rfl) (by kernel_rfl) (by kernel_rfl) (fun _ _ _ h => h) (Or.inl ⟨by rfl, ?_⟩) (by assumption) ?_
            · intro wz hSw
              obtain ⟨hs0, hs1, hs2, hs3⟩ := hSw
              go_simp
            simp only [Act.put, List.setIfInBounds_toArray, List.set_cons_zero, List.set_cons_succ]
            refine wpAnyH_take (i := 6) (v := .int .i64 (k : Int)) rfl (by kernel_rfl) (by kernel_rfl) (by kernel_rfl) (fun _ _ _ h => h) (Or.inl ⟨by rfl, ?_⟩) (by assumption) ?_
            · intro wz hSw
              obtain ⟨hs0, hs1, hs2, hs3⟩ := hSw
              go_simp
            simp only [Act.put, List.setIfInBounds_toArray, List.set_cons_zero, List.set_cons_succ]
            refine wpAnyH_take (i := 7) (v := .pointer (some ⟨gl, k, none⟩)) rfl (by kernel_rfl) (by kernel_rfl) (by kernel_rfl) (fun _ _ _ h => h) (Or.inl ⟨by rfl, ?_⟩) (by assumption) ?_
            · intro wz hSw
              obtain ⟨hs0, hs1, hs2, hs3⟩ := hSw
              go_simp
            simp only [Act.put, List.setIfInBounds_toArray, List.set_cons_zero, List.set_cons_succ]
            refine wpAnyH_take (i := 8) (v := .slice (some ⟨gr, 0, none⟩) ml rc) rfl (by kernel_rfl) (by kernel_rfl) (by kernel_rfl) (fun _ _ _ h => h) (Or.inl ⟨by rfl, ?_⟩) (by assumption) ?_
            · intro wz hSw
              obtain ⟨hs0, hs1, hs2, hs3⟩ := hSw
              go_simp
            simp only [Act.put, List.setIfInBounds_toArray, List.set_cons_zero, List.set_cons_succ]
            have hHeld3 : ( (wr.alloc (.cells #[.slice (some ⟨gr, 0, none⟩) ml rc] 25)).drew.cell? ⟨bv, 0, none⟩ = some (.pointer (some ⟨bg, 0, none⟩)) ∧ (wr.alloc (.cells #[.slice (some ⟨gr, 0, none⟩) ml rc] 25)).drew.cell? ⟨W2.heap.size, 0, none⟩ = some (.slice (some ⟨gl, 0, none⟩) left.length cap) ∧ (wr.alloc (.cells #[.slice (some ⟨gr, 0, none⟩) ml rc] 25)).drew.cell? ⟨gl, k, none⟩ = some (.slice (some ⟨gr, 0, none⟩) ml rc) ∧ (wr.alloc (.cells #[.slice (some ⟨gr, 0, none⟩) ml rc] 25)).drew.frozen? ⟨bg, 2, none⟩ = false) :=
              ⟨(World.cell?_alloc_lt _ _ _ lV').trans c1, (World.cell?_alloc_lt _ _ _ lL').trans cLi, (World.cell?_alloc_lt _ _ _ lgl).trans ck', (World.frozen?_alloc_past _ _ _ lg').trans fbg⟩
            refine wpAnyH_ready (rs := [4, 9]) (by kernel_rfl) (by simp) ?_
            refine AllReadyH.cons rfl (fun K hK => ?_) (AllReadyH.cons rfl (fun K hK => ?_) AllReadyH.nil)
            · have c2d : wr.drew.cell? ⟨bg, 2, none⟩ = some (.slice pa ps.length pc) := c2
              go_simp
              refine hK.out _ _ hHeld (fun hHeld2 => ?_)
              clear hK K
              try simp only [Act.put, List.setIfInBounds_toArray, List.set_cons_zero, List.set_cons_succ]
              refine wpAnyH_ready (rs := [9]) (by kernel_rfl) (by simp) ?_
              refine AllReadyH.cons rfl (fun K hK => ?_) AllReadyH.nil
              go_simp
              refine hK.out _ _ hHeld3 (fun hHeld2 => ?_)
              clear hK K c2d
              try simp only [Act.put, List.setIfInBounds_toArray, List.set_cons_zero, List.set_cons_succ]
              refine wpAnyH_ready (rs := [10]) (by kernel_rfl) (by simp) ?_
              refine AllReadyH.cons rfl (fun K hK => ?_) AllReadyH.nil
              refine step_append_lies _ (by rfl) _ _ _ (by rfl) X3.heap.size 25 i0 _ 1 24 Try.underlying41 hi0 hz0 hz1 hz2 rfl (by omega) (.slice pa ps.length pc) ps.length (ps.map V) (by rfl) hown ⟨wr.heap.size, 0, none⟩ 1 1 [.slice (some ⟨gr, 0, none⟩) ml rc] (by rfl) (by rfl) (World.news_of_block (cs := #[.slice (some ⟨gr, 0, none⟩) ml rc]) (t := 25) (fr := (0, 0)) (heap_alloc_new wr _)) (by simp [Value.oneCell']) (by omega) (by unfold maxLen; omega) (by omega) hsz (wr.heap.size + 1) (by simp) ?_
              intro gg cap2 w1 hown1 hgrow hat hlt
              have e0 := hgrow.cell_far ⟨bv, 0, none⟩ (by simp; omega) (Ne.symm nbv)
              have e1 := hgrow.cell_far ⟨W2.heap.size, 0, none⟩ (by simp; omega) (Ne.symm nbL)
              have e2 := hgrow.cell_far ⟨gl, k, none⟩ (by simp; omega) (Ne.symm ngl)
              have e3 := hgrow.frozen_far ⟨bg, 2, none⟩ (by simp; omega) (Ne.symm nbg)
              have e4 := hgrow.cell_far ⟨bg, 2, none⟩ (by simp; omega) (Ne.symm nbg)
              have hlg : bg < w1.heap.size := Nat.lt_of_lt_of_le (by simp; omega : bg < (wr.alloc (.cells #[.slice (some ⟨gr, 0, none⟩) ml rc] 25)).drew.heap.size) hgrow.size
              refine hK.out _ _ ⟨e0.trans hHeld3.1, e1.trans hHeld3.2.1, e2.trans hHeld3.2.2.1, e3.trans hHeld3.2.2.2⟩ (fun hHeld4 => ?_)
              have hcg : w1.cell? ⟨bg, 2, none⟩ = some (.slice pa ps.length pc) := e4.trans ((World.cell?_alloc_lt _ _ _ lg').trans c2)
              have hfg := hHeld4.2.2.2
              clear hK K e0 e1 e2 e3 e4
              try simp only [Act.put, List.setIfInBounds_toArray, List.set_cons_zero, List.set_cons_succ]
              refine wpAnyH_take (i := 11) (v := .pointer (some ⟨bg, 0, none⟩)) rfl (by kernel_rfl) (by kernel_rfl) (by kernel_rfl) (fun _ _ _ h => h) (Or.inl ⟨by rfl, ?_⟩) (by assumption) ?_
              · intro wz hSw
                obtain ⟨hs0, hs1, hs2, hs3⟩ := hSw
                go_simp
              try simp only [Act.put, List.setIfInBounds_toArray, List.set_cons_zero, List.set_cons_succ]
              refine wpAnyH_take (i := 12) (v := .pointer (some ⟨bg, 2, none⟩)) rfl (by kernel_rfl) (by kernel_rfl) (by kernel_rfl) (fun _ _ _ h => h) (Or.inl ⟨by rfl, ?_⟩) (by assumption) ?_
              · intro wz hSw
                obtain ⟨hs0, hs1, hs2, hs3⟩ := hSw
                go_simp
              try simp only [Act.put, List.setIfInBounds_toArray, List.set_cons_zero, List.set_cons_succ]
              refine wpAnyH_ready (rs := [13]) (by kernel_rfl) (by simp) ?_
              refine AllReadyH.cons rfl (fun K hK => ?_) AllReadyH.nil
              go_simp
              refine hK.out _ _ ⟨?_, ?_, ?_, ?_⟩ (fun _ => ?_)
              · rw [World.cell?_setCell_other _ _ _ _ (fun e => n1 (Addr.mk.inj e).1)]; exact hHeld4.1
              · rw [World.cell?_setCell_other _ _ _ _ (fun e => n2 (Addr.mk.inj e).1)]; exact hHeld4.2.1
              · rw [World.cell?_setCell_other _ _ _ _ (fun e => n3 (Addr.mk.inj e).1)]; exact hHeld4.2.2.1
              · rw [World.frozen?_setCell]; exact hHeld4.2.2.2
              clear hK K
              refine wpAnyH_done (by kernel_rfl) ?_ _
              obtain ⟨hmP, hbP⟩ : LpM (w1.setCell ⟨bg, 2, none⟩ (.slice (some ⟨gg, 0, none⟩) (ps.length + 1) cap2)) X3.heap.size n (relE l) W2.heap.size bv bg bl bp V (pfJ (rea n (relE l)) ps (mem_ n (rea n (relE l)) r) ml) left (ps ++ [r]) (.slice (some ⟨gl, 0, none⟩) left.length cap) (.slice (some ⟨gg, 0, none⟩) (ps.length + 1) cap2) ∧ Below w.heap.size w (w1.setCell ⟨bg, 2, none⟩ (.slice (some ⟨gg, 0, none⟩) (ps.length + 1) cap2)) := by
                refine ⟨C.out.1.push (r := r) (by intro g hg; simp only [Value.ownBlock, Option.some.injEq] at hg; subst hg; exact lgl) hgrow (by rw [D.out.2.2.2.2.2.1]; exact hown1) (hat.imp id (fun h => .inl h)), gr_set ((gr_drew (gr_alloc C.out.2.1 (.cells #[.slice (some ⟨gr, 0, none⟩) ml rc] 25))).grown hgrow (by have := C.out.2.1.size; simp; omega) (fun q hq => Nat.le_trans Y.out.2.2.2 (C.out.1.prow.lt q hq).1)) lg _⟩
              obtain ⟨X14, hX14⟩ : ∃ X14, X14 = w1.setCell ⟨bg, 2, none⟩ (.slice (some ⟨gg, 0, none⟩) (ps.length + 1) cap2) := ⟨_, rfl⟩
              have hglX : Blk X14 gl 25 cur' := by
                rw [hX14]
                exact ((show Blk (wr.alloc (.cells #[.slice (some ⟨gr, 0, none⟩) ml rc] 25)).drew gl 25 cur' from C.out.2.2.2.1.alloc _).grown hgrow (Ne.symm ngl)).far (p := ⟨bg, 2, none⟩) (Ne.symm n3) _
              rw [← hX14] at hmP hbP ⊢
              have cLd := hmP.lvr.cell' (i := 0) rfl
              have lLd := hmP.lvr.lt
              have hdel := Try.slices_Delete (encV V) (fun x => by cases x with | none => rfl | some s => exact Y.out.2.2.1 s) none Try.zeroValue25 i0 hi0 hz1 gl 0 cap k (k + 1) (left.map some).toArray X14 (fun j hj => by
                have hj' : j < left.length := by simpa using hj
                rw [Nat.zero_add]
                refine ⟨?_, hglX.frozen j⟩
                have he : ((left.map some).toArray)[j]! = some left[j] := by
                  rw [getElem!_pos _ j hj, List.getElem_toArray, List.getElem_map]
                rw [he]
                exact row_cellsV (V := V) hglX C.out.2.2.2.2.1 rfl j (V left[j]) (by rw [List.getElem?_map, List.getElem?_eq_getElem hj']; rfl)) (by simpa using hcap) (by unfold maxLen at hmx; omega) (by omega) (by rw [List.size_toArray, List.length_map]; omega)
              simp only [List.size_toArray, List.length_map, List.toList_toArray, show k + 1 - k = 1 by omega] at hdel
              have hk1 : ((k + 1 : Nat) : Int) = (k : Int) + 1 := by omega
              rw [hk1] at hdel
              have M := Lib.hid (And.intro hmP (And.intro hbP (And.intro hglX hdel)))
              clear hmP hbP hglX hdel hX14 hgrow hown1 hat hlt hcg hfg hHeld hHeld2 hHeld3 hHeld4 hown hlg cL lL cV lV cL3 lL3 lg3 c1 l1 c2 c3 l2 cLi lLi ck ck' lgl lV' lg' lL' fbg
              go_wp2_with (fail)
              refine M.out.2.2.2.mono ?_
              rintro e W5 ⟨rfl, q, hW5⟩
              have hdl := M.out.1.del D.out.1.lo.nodup D.out.2.2.1 M.out.2.2.1 hgB hcap hmx hcs' q
              have hbd := gr_putRow (enc := encV V) M.out.2.1 (show w.heap.size ≤ gl from Nat.le_trans (Nat.le_trans Y.out.2.2.2 (Nat.le_refl _)) hgB) q 0 ((left.map some).take k ++ (left.map some).drop (k + 1) ++ List.replicate 1 none).toArray
              have hbk : Blk W5 W2.heap.size 41 #[.slice (some ⟨gl, 0, none⟩) left.length cap] := by
                rw [hW5]
                exact M.out.1.lvr.putFar (M.out.1.lvr.ne_ M.out.2.2.1 (by decide)) q 0 _
              have c5 := hbk.cell' (i := 0) rfl
              have f5 := hbk.frozen 0
              have l5 := hbk.lt
              have N := Lib.hid (And.intro hdl (And.intro hbd hW5))
              clear hdl hbd hW5 hbk
              go_wp2_with (fail)
              go_roundg (left.length - 1)
              case measure =>
                have h1 := M.out.1
                have := List.length_pos_of_mem (List.mem_of_getElem? D.out.2.2.1)
                have h2 := hm
                omega
              case rel =>
                have hr := List.mem_of_getElem? D.out.2.2.1
                refine ⟨left.erase r, ps ++ [r], .slice (some ⟨gl, 0, none⟩) (left.length - 1) cap, .slice (some ⟨gg, 0, none⟩) (ps.length + 1) cap2, by rw [List.length_erase_of_mem hr], ?_, ?_⟩
                · rw [N.out.2.2]
                  refine (N.out.1.congr C.out.2.2.1).ok (D.out.1.lo.erase r) ?_
                  rw [D.out.1.eq, ordR_step H'.out.2.2.1 D.out.1.lo D.out.2.2.2.1, List.append_assoc]
                  rfl
                · rw [N.out.2.2]
                  exact gr_set N.out.2.1 (p := ⟨W2.heap.size, 0, none⟩) (Nat.le_trans Y.out.2.2.2 hX3s) _
            · have c2d : (wr.alloc (.cells #[.slice (some ⟨gr, 0, none⟩) ml rc] 25)).drew.cell? ⟨bg, 2, none⟩ = some (.slice pa ps.length pc) := (World.cell?_alloc_lt _ _ _ lg').trans c2
              go_simp
              refine hK.out _ _ hHeld3 (fun hHeld2 => ?_)
              clear hK K
              try simp only [Act.put, List.setIfInBounds_toArray, List.set_cons_zero, List.set_cons_succ]
              refine wpAnyH_ready (rs := [4]) (by kernel_rfl) (by simp) ?_
              refine AllReadyH.cons rfl (fun K hK => ?_) AllReadyH.nil
              go_simp
              refine hK.out _ _ hHeld3 (fun hHeld2 => ?_)
              clear hK K c2d
              try simp only [Act.put, List.setIfInBounds_toArray, List.set_cons_zero, List.set_cons_succ]
              refine wpAnyH_ready (rs := [10]) (by kernel_rfl) (by simp) ?_
              refine AllReadyH.cons rfl (fun K hK => ?_) AllReadyH.nil
              refine step_append_lies _ (by rfl) _ _ _ (by rfl) X3.heap.size 25 i0 _ 1 24 Try.underlying41 hi0 hz0 hz1 hz2 rfl (by omega) (.slice pa ps.length pc) ps.length (ps.map V) (by rfl) hown ⟨wr.heap.size, 0, none⟩ 1 1 [.slice (some ⟨gr, 0, none⟩) ml rc] (by rfl) (by rfl) (World.news_of_block (cs := #[.slice (some ⟨gr, 0, none⟩) ml rc]) (t := 25) (fr := (0, 0)) (heap_alloc_new wr _)) (by simp [Value.oneCell']) (by omega) (by unfold maxLen; omega) (by omega) hsz (wr.heap.size + 1) (by simp) ?_
              intro gg cap2 w1 hown1 hgrow hat hlt
              have e0 := hgrow.cell_far ⟨bv, 0, none⟩ (by simp; omega) (Ne.symm nbv)
              have e1 := hgrow.cell_far ⟨W2.heap.size, 0, none⟩ (by simp; omega) (Ne.symm nbL)
              have e2 := hgrow.cell_far ⟨gl, k, none⟩ (by simp; omega) (Ne.symm ngl)
              have e3 := hgrow.frozen_far ⟨bg, 2, none⟩ (by simp; omega) (Ne.symm nbg)
              have e4 := hgrow.cell_far ⟨bg, 2, none⟩ (by simp; omega) (Ne.symm nbg)
              have hlg : bg < w1.heap.size := Nat.lt_of_lt_of_le (by simp; omega : bg < (wr.alloc (.cells #[.slice (some ⟨gr, 0, none⟩) ml rc] 25)).drew.heap.size) hgrow.size
              refine hK.out _ _ ⟨e0.trans hHeld3.1, e1.trans hHeld3.2.1, e2.trans hHeld3.2.2.1, e3.trans hHeld3.2.2.2⟩ (fun hHeld4 => ?_)
              have hcg : w1.cell? ⟨bg, 2, none⟩ = some (.slice pa ps.length pc) := e4.trans ((World.cell?_alloc_lt _ _ _ lg').trans c2)
              have hfg := hHeld4.2.2.2
              clear hK K e0 e1 e2 e3 e4
              try simp only [Act.put, List.setIfInBounds_toArray, List.set_cons_zero, List.set_cons_succ]
              refine wpAnyH_take (i := 11) (v := .pointer (some ⟨bg, 0, none⟩)) rfl (by kernel_rfl) (by kernel_rfl) (by kernel_rfl) (fun _ _ _ h => h) (Or.inl ⟨by rfl, ?_⟩) (by assumption) ?_
              · intro wz hSw
                obtain ⟨hs0, hs1, hs2, hs3⟩ := hSw
                go_simp
              try simp only [Act.put, List.setIfInBounds_toArray, List.set_cons_zero, List.set_cons_succ]
              refine wpAnyH_take (i := 12) (v := .pointer (some ⟨bg, 2, none⟩)) rfl (by kernel_rfl) (by kernel_rfl) (by kernel_rfl) (fun _ _ _ h => h) (Or.inl ⟨by rfl, ?_⟩) (by assumption) ?_
              · intro wz hSw
                obtain ⟨hs0, hs1, hs2, hs3⟩ := hSw
                go_simp
              try simp only [Act.put, List.setIfInBounds_toArray, List.set_cons_zero, List.set_cons_succ]
              refine wpAnyH_ready (rs := [13]) (by kernel_rfl) (by simp) ?_
              refine AllReadyH.cons rfl (fun K hK => ?_) AllReadyH.nil
              go_simp
              refine hK.out _ _ ⟨?_, ?_, ?_, ?_⟩ (fun _ => ?_)
              · rw [World.cell?_setCell_other _ _ _ _ (fun e => n1 (Addr.mk.inj e).1)]; exact hHeld4.1
              · rw [World.cell?_setCell_other _ _ _ _ (fun e => n2 (Addr.mk.inj e).1)]; exact hHeld4.2.1
              · rw [World.cell?_setCell_other _ _ _ _ (fun e => n3 (Addr.mk.inj e).1)]; exact hHeld4.2.2.1
              · rw [World.frozen?_setCell]; exact hHeld4.2.2.2
              clear hK K
              refine wpAnyH_done (by kernel_rfl) ?_ _
              obtain ⟨hmP, hbP⟩ : LpM (w1.setCell ⟨bg, 2, none⟩ (.slice (some ⟨gg, 0, none⟩) (ps.length + 1) cap2)) X3.heap.size n (relE l) W2.heap.size bv bg bl bp V (pfJ (rea n (relE l)) ps (mem_ n (rea n (relE l)) r) ml) left (ps ++ [r]) (.slice (some ⟨gl, 0, none⟩) left.length cap) (.slice (some ⟨gg, 0, none⟩) (ps.length + 1) cap2) ∧ Below w.heap.size w (w1.setCell ⟨bg, 2, none⟩ (.slice (some ⟨gg, 0, none⟩) (ps.length + 1) cap2)) := by
                refine ⟨C.out.1.push (r := r) (by intro g hg; simp only [Value.ownBlock, Option.some.injEq] at hg; subst hg; exact lgl) hgrow (by rw [D.out.2.2.2.2.2.1]; exact hown1) (hat.imp id (fun h => .inl h)), gr_set ((gr_drew (gr_alloc C.out.2.1 (.cells #[.slice (some ⟨gr, 0, none⟩) ml rc] 25))).grown hgrow (by have := C.out.2.1.size; simp; omega) (fun q hq => Nat.le_trans Y.out.2.2.2 (C.out.1.prow.lt q hq).1)) lg _⟩
              obtain ⟨X14, hX14⟩ : ∃ X14, X14 = w1.setCell ⟨bg, 2, none⟩ (.slice (some ⟨gg, 0, none⟩) (ps.length + 1) cap2) := ⟨_, rfl⟩
              have hglX : Blk X14 gl 25 cur' := by
                rw [hX14]
                exact ((show Blk (wr.alloc (.cells #[.slice (some ⟨gr, 0, none⟩) ml rc] 25)).drew gl 25 cur' from C.out.2.2.2.1.alloc _).grown hgrow (Ne.symm ngl)).far (p := ⟨bg, 2, none⟩) (Ne.symm n3) _
              rw [← hX14] at hmP hbP ⊢
              have cLd := hmP.lvr.cell' (i := 0) rfl
              have lLd := hmP.lvr.lt
              have hdel := Try.slices_Delete (encV V) (fun x => by cases x with | none => rfl | some s => exact Y.out.2.2.1 s) none Try.zeroValue25 i0 hi0 hz1 gl 0 cap k (k + 1) (left.map some).toArray X14 (fun j hj => by
                have hj' : j < left.length := by simpa using hj
                rw [Nat.zero_add]
                refine ⟨?_, hglX.frozen j⟩
                have he : ((left.map some).toArray)[j]! = some left[j] := by
                  rw [getElem!_pos _ j hj, List.getElem_toArray, List.getElem_map]
                rw [he]
                exact row_cellsV (V := V) hglX C.out.2.2.2.2.1 rfl j (V left[j]) (by rw [List.getElem?_map, List.getElem?_eq_getElem hj']; rfl)) (by simpa using hcap) (by unfold maxLen at hmx; omega) (by omega) (by rw [List.size_toArray, List.length_map]; omega)
              simp only [List.size_toArray, List.length_map, List.toList_toArray, show k + 1 - k = 1 by omega] at hdel
              have hk1 : ((k + 1 : Nat) : Int) = (k : Int) + 1 := by omega
              rw [hk1] at hdel
              have M := Lib.hid (And.intro hmP (And.intro hbP (And.intro hglX hdel)))
              clear hmP hbP hglX hdel hX14 hgrow hown1 hat hlt hcg hfg hHeld hHeld2 hHeld3 hHeld4 hown hlg cL lL cV lV cL3 lL3 lg3 c1 l1 c2 c3 l2 cLi lLi ck ck' lgl lV' lg' lL' fbg
              go_wp2_with (fail)
              refine M.out.2.2.2.mono ?_
              rintro e W5 ⟨rfl, q, hW5⟩
              have hdl := M.out.1.del D.out.1.lo.nodup D.out.2.2.1 M.out.2.2.1 hgB hcap hmx hcs' q
              have hbd := gr_putRow (enc := encV V) M.out.2.1 (show w.heap.size ≤ gl from Nat.le_trans (Nat.le_trans Y.out.2.2.2 (Nat.le_refl _)) hgB) q 0 ((left.map some).take k ++ (left.map some).drop (k + 1) ++ List.replicate 1 none).toArray
              have hbk : Blk W5 W2.heap.size 41 #[.slice (some ⟨gl, 0, none⟩) left.length cap] := by
                rw [hW5]
                exact M.out.1.lvr.putFar (M.out.1.lvr.ne_ M.out.2.2.1 (by decide)) q 0 _
              have c5 := hbk.cell' (i := 0) rfl
              have f5 := hbk.frozen 0
              have l5 := hbk.lt
              have N := Lib.hid (And.intro hdl (And.intro hbd hW5))
              clear hdl hbd hW5 hbk
              go_wp2_with (fail)
              go_roundg (left.length - 1)
              case measure =>
                have h1 := M.out.1
                have := List.length_pos_of_mem (List.mem_of_getElem? D.out.2.2.1)
                have h2 := hm
                omega
              case rel =>
                have hr := List.mem_of_getElem? D.out.2.2.1
                refine ⟨left.erase r, ps ++ [r], .slice (some ⟨gl, 0, none⟩) (left.length - 1) cap, .slice (some ⟨gg, 0, none⟩) (ps.length + 1) cap2, by rw [List.length_erase_of_mem hr], ?_, ?_⟩
                · rw [N.out.2.2]
                  refine (N.out.1.congr C.out.2.2.1).ok (D.out.1.lo.erase r) ?_
                  rw [D.out.1.eq, ordR_step H'.out.2.2.1 D.out.1.lo D.out.2.2.2.1, List.append_assoc]
                  rfl
                · rw [N.out.2.2]
                  exact gr_set N.out.2.1 (p := ⟨W2.heap.size, 0, none⟩) (Nat.le_trans Y.out.2.2.2 hX3s) _
end Go.Proofs.Ytjgkiiohbceocaa
