/-
  byteset.Fold: over the iterator; condition: the library's table lies as it is laid.
-/
import Derived.Test.YtcfdadgijnmemaaDoorSetK
namespace Go.Proofs.YtcfdadgijnmemaaDoor
open Go.RowKit Go.Shelf
set_option linter.unusedVariables false
set_option linter.unusedSimpArgs false
attribute [local go_sem] Oper.semAt_some

/-- A set, and beside it the letters of a list in the other case. -/
def foldL (p : Nat → Bool) (l : List (Fin 256)) : Nat → Bool := fun c => p c || l.any (fun x => letP x.val && decide (c = x.val ^^^ 32))
/-- Folding. -/
def foldP (p : Nat → Bool) : Nat → Bool := fun c => p c || (letP c && p (c ^^^ 32))
theorem xor32 : ∀ c : Nat, c < 256 → c ^^^ 32 < 256 ∧ (c ^^^ 32) ^^^ 32 = c ∧ letP (c ^^^ 32) = letP c := by decide +kernel
theorem foldL_all (p : Nat → Bool) : setC (foldL p (lstP p 256)) = setC (foldP p) := by
  refine setC_ext (fun c hc => ?_)
  unfold foldL foldP
  congr 1
  obtain ⟨h1, h2, h3⟩ := xor32 c hc
  rw [Bool.eq_iff_iff, List.any_eq_true, Bool.and_eq_true]
  constructor
  · rintro ⟨x, hx, hl⟩
    rw [Bool.and_eq_true, decide_eq_true_eq] at hl
    obtain ⟨g1, g2, g3⟩ := xor32 x.val x.isLt
    have hx := (lstP_mem p 256 x).1 hx
    rw [hl.2, g2, g3]
    exact ⟨hl.1, hx.2⟩
  · rintro ⟨hl, hp⟩
    refine ⟨⟨c ^^^ 32, h1⟩, (lstP_mem p 256 _).2 ⟨h1, hp⟩, ?_⟩
    rw [Bool.and_eq_true, decide_eq_true_eq]
    exact ⟨by rw [h3]; exact hl, h2.symm⟩
theorem foldL_yes (p : Nat → Bool) (l : List (Fin 256)) (x : Fin 256) (h : letP x.val = true) : setC (orP (foldL p l) (insP noP (x.val ^^^ 32))) = setC (foldL p (l ++ [x])) := by
  refine setC_ext (fun c hc => ?_)
  simp [orP, foldL, insP, noP, h, Bool.or_assoc]
theorem foldL_no (p : Nat → Bool) (l : List (Fin 256)) (x : Fin 256) (h : letP x.val = false) : setC (foldL p l) = setC (foldL p (l ++ [x])) := by
  refine setC_ext (fun c hc => ?_)
  simp [foldL, h]
theorem xor_u8 (x : Nat) (hx : x < 256) : bits .xor .u8 (x : Int) 32 = ((x ^^^ 32 : Nat) : Int) := by
  have h1 : (BitVec.ofInt 8 (x : Int)).toNat = x := by
    rw [BitVec.ofInt_natCast, BitVec.toNat_ofNat]; exact Nat.mod_eq_of_lt (by omega)
  have h2 : (BitVec.ofInt 8 (32 : Int)).toNat = 32 := by decide
  show IntKind.u8.wrap ((BitVec.ofInt 8 (x : Int) ^^^ BitVec.ofInt 8 (32 : Int)).toNat : Int) = _
  rw [BitVec.toNat_xor, h1, h2, IntKind.wrap_u8]
  have := (xor32 x hx).1
  omega

/-- The loop's set, in block v. -/
def FoldAt (w : World) (v : Nat) (q : Nat → Bool) (W : World) : Prop := Blk W v 28 #[Value.int .u64 (setW q 0 : Int), .int .u64 (setW q 1 : Int), .int .u64 (setW q 2 : Int), .int .u64 (setW q 3 : Int)]
theorem FoldAt.facts {w W : World} {v : Nat} {q : Nat → Bool} (h : Blk W v 28 #[Value.int .u64 (setW q 0 : Int), .int .u64 (setW q 1 : Int), .int .u64 (setW q 2 : Int), .int .u64 (setW q 3 : Int)]) : W.cell? ⟨v, 0, none⟩ = some (.int .u64 (setW q 0 : Int)) ∧ W.cell? ⟨v, 1, none⟩ = some (.int .u64 (setW q 1 : Int)) ∧ W.cell? ⟨v, 2, none⟩ = some (.int .u64 (setW q 2 : Int)) ∧ W.cell? ⟨v, 3, none⟩ = some (.int .u64 (setW q 3 : Int)) ∧
    W.frozen? ⟨v, 0, none⟩ = false ∧ W.frozen? ⟨v, 1, none⟩ = false ∧ W.frozen? ⟨v, 2, none⟩ = false ∧ W.frozen? ⟨v, 3, none⟩ = false :=
  ⟨h.cell' (i := 0) rfl, h.cell' (i := 1) rfl, h.cell' (i := 2) rfl, h.cell' (i := 3) rfl, h.frozen 0, h.frozen 1, h.frozen 2, h.frozen 3⟩
theorem blk_store {W : World} {v : Nat} {q q' : Nat → Bool} (h : Blk W v 28 #[Value.int .u64 (setW q 0 : Int), .int .u64 (setW q 1 : Int), .int .u64 (setW q 2 : Int), .int .u64 (setW q 3 : Int)]) : Blk ((((W.setCell ⟨v, 0, none⟩ (.int .u64 (setW q' 0 : Int))).setCell ⟨v, 1, none⟩ (.int .u64 (setW q' 1 : Int))).setCell ⟨v, 2, none⟩ (.int .u64 (setW q' 2 : Int))).setCell ⟨v, 3, none⟩ (.int .u64 (setW q' 3 : Int))) v 28 #[Value.int .u64 (setW q' 0 : Int), .int .u64 (setW q' 1 : Int), .int .u64 (setW q' 2 : Int), .int .u64 (setW q' 3 : Int)] := by
  simpa using (((h.set_ 0 _).set_ 1 _).set_ 2 _).set_ 3 _
theorem blk_same {W : World} {v : Nat} {q q' : Nat → Bool} (h : Blk W v 28 #[Value.int .u64 (setW q 0 : Int), .int .u64 (setW q 1 : Int), .int .u64 (setW q 2 : Int), .int .u64 (setW q 3 : Int)]) (hs : setC q = setC q') : Blk W v 28 #[Value.int .u64 (setW q' 0 : Int), .int .u64 (setW q' 1 : Int), .int .u64 (setW q' 2 : Int), .int .u64 (setW q' 3 : Int)] := by
  unfold setC at hs
  rwa [hs] at h

set_option maxRecDepth 100000 in
set_option maxHeartbeats 4000000 in
theorem fold_in (p : Nat → Bool) (w : World) (hT : TabOk w) (hw : 0 < w.heap.size) :
    CallsIn Fence.wide 3 Tryd.prog 29 #[Value.agg #[.int .u64 (setW p 0 : Int), .int .u64 (setW p 1 : Int), .int .u64 (setW p 2 : Int), .int .u64 (setW p 3 : Int)]] w fun e W' => e = .returned (Value.agg #[.int .u64 (setW (foldP p) 0 : Int), .int .u64 (setW (foldP p) 1 : Int), .int .u64 (setW (foldP p) 2 : Int), .int .u64 (setW (foldP p) 3 : Int)]) ∧ Below w.heap.size w W' := by
  refine callsIn_of_wp_marks Tryd.func29 rfl trivial ?_ rfl
  simp only [Tryd.ntmps29, List.size_toArray, List.length_cons, List.length_nil, Nat.reduceAdd, Nat.reduceSub, Array.replicate_succ, Array.replicate_zero, List.push_toArray, List.append_toArray, List.nil_append, List.cons_append]
  gi_wp2_with (fail)
  refine ⟨trivial, (bytes_in _ p _).mono ?_⟩
  rintro e w' ⟨rfl, rfl⟩
  gi_wp2_with (fail)
  obtain ⟨w0, hw0⟩ : ∃ w0, w0 = ((w.alloc (.cells #[Value.int .u64 (setW p 0 : Int), .int .u64 (setW p 1 : Int), .int .u64 (setW p 2 : Int), .int .u64 (setW p 3 : Int)] 28)).alloc (.cells #[.int .u64 0, .int .u64 0, .int .u64 0, .int .u64 0] 28)).alloc (.cells #[Value.int .u64 (setW p 0 : Int), .int .u64 (setW p 1 : Int), .int .u64 (setW p 2 : Int), .int .u64 (setW p 3 : Int)] 28) := ⟨_, rfl⟩
  have b1 : Blk w0 (w.heap.size + 1) 28 #[.int .u64 0, .int .u64 0, .int .u64 0, .int .u64 0] := by rw [hw0]; simpa using (Blk.new (w.alloc (.cells #[Value.int .u64 (setW p 0 : Int), .int .u64 (setW p 1 : Int), .int .u64 (setW p 2 : Int), .int .u64 (setW p 3 : Int)] 28)) 28 #[.int .u64 0, .int .u64 0, .int .u64 0, .int .u64 0]).alloc (.cells #[Value.int .u64 (setW p 0 : Int), .int .u64 (setW p 1 : Int), .int .u64 (setW p 2 : Int), .int .u64 (setW p 3 : Int)] 28)
  have b2 : Blk w0 (w.heap.size + 1 + 1) 28 #[Value.int .u64 (setW p 0 : Int), .int .u64 (setW p 1 : Int), .int .u64 (setW p 2 : Int), .int .u64 (setW p 3 : Int)] := by rw [hw0]; simpa using Blk.new ((w.alloc (.cells #[Value.int .u64 (setW p 0 : Int), .int .u64 (setW p 1 : Int), .int .u64 (setW p 2 : Int), .int .u64 (setW p 3 : Int)] 28)).alloc (.cells #[.int .u64 0, .int .u64 0, .int .u64 0, .int .u64 0] 28)) 28 #[Value.int .u64 (setW p 0 : Int), .int .u64 (setW p 1 : Int), .int .u64 (setW p 2 : Int), .int .u64 (setW p 3 : Int)]
  have hB0 : Below w.heap.size w w0 := by rw [hw0]; exact gr_alloc (gr_alloc (gr_alloc (Below.refl _ _) _) _) _
  have hsz : w0.heap.size = w.heap.size + 1 + 1 + 1 := by rw [hw0]; simp
  rw [← hw0]
  have bN := Blk.new w0 28 #[Value.int .u64 (setW p 0 : Int), .int .u64 (setW p 1 : Int), .int .u64 (setW p 2 : Int), .int .u64 (setW p 3 : Int)]
  rw [hsz] at bN
  have hB1 : Below w.heap.size w (w0.alloc (.cells #[Value.int .u64 (setW p 0 : Int), .int .u64 (setW p 1 : Int), .int .u64 (setW p 2 : Int), .int .u64 (setW p 3 : Int)] 28)) := gr_alloc hB0 _
  refine wpIn_rangeFunc_ownG rfl (by decide) (gf := 53) (lb := #[.pointer (some ⟨w.heap.size + 1 + 1 + 1, 0, none⟩)]) rfl trivial (enters_of Tryd.func53 (by kernel_rfl) rfl)
    (iter_stops _ (by decide) (w.heap.size + 1 + 1 + 1) w.heap.size hw p _ bN (hT.below hB1 hw) hB1.size) belowK_t (belowK_b hB1.size) (Below.refl _ _) (fun _ => rfl)
    (fun pre W => (Blk W (w.heap.size + 1) 28 #[.int .u64 0, .int .u64 0, .int .u64 0, .int .u64 0] ∧ Blk W (w.heap.size + 1 + 1) 28 #[Value.int .u64 (setW (foldL p pre) 0 : Int), .int .u64 (setW (foldL p pre) 1 : Int), .int .u64 (setW (foldL p pre) 2 : Int), .int .u64 (setW (foldL p pre) 3 : Int)]) ∧ Below w.heap.size w W)
    (fun _ _ _ => False)
    (OwnFrom.and (Own.from (fun s A B row hs hg hr => ⟨Blk_kept hs.1 hg hr, Blk_kept hs.2 hg hr⟩) _) (ownFrom_below (Nat.le_refl _) hB1.size))
    (fun _ _ _ _ _ hs _ _ => hs)
    ⟨⟨b1.alloc _, blk_same (b2.alloc _) (setC_ext (fun c _ => by simp [foldL]))⟩, hB1⟩
    (fun x => { tmps := #[Value.agg #[.int .u64 (setW p 0 : Int), .int .u64 (setW p 1 : Int), .int .u64 (setW p 2 : Int), .int .u64 (setW p 3 : Int)], .pointer (some ⟨w.heap.size, 0, none⟩), .pointer (some ⟨w.heap.size + 1, 0, none⟩), .pointer (some ⟨w.heap.size + 1 + 1, 0, none⟩), .int .u8 (x.val : Int), Value.agg #[.int .u64 (setW p 0 : Int), .int .u64 (setW p 1 : Int), .int .u64 (setW p 2 : Int), .int .u64 (setW p 3 : Int)], Value.agg #[.int .u64 (setW p 0 : Int), .int .u64 (setW p 1 : Int), .int .u64 (setW p 2 : Int), .int .u64 (setW p 3 : Int)], .func (.func 53) #[] #[.pointer (some ⟨w.heap.size + 1 + 1 + 1, 0, none⟩)], .int .u8 (x.val : Int), undef, undef, undef, undef, undef, undef, undef, undef, undef, undef], defers := [] }) ?assign ?body ?done ?stop
  case assign =>
    intro l x W K hK
    unfold encB
    gi_wp2
    exact hK
  case body =>
    rintro l pre x W ⟨⟨d1, d2⟩, hB⟩ hlt
    have hx := x.isLt
    have hB2 := hB.size
    have HD := Lib.hid (And.intro d1 (And.intro d2 hB))
    obtain ⟨c0, c1, c2, c3, g0, g1, g2, g3⟩ := FoldAt.facts (w := w) d2
    have hsz2 := d2.lt
    clear d1 d2 hB
    cases hl : letP x.val
    · have HL := Lib.hid hl
      gi_wp2_with (refine ⟨trivial, ?_⟩; gi_at_call 47; refine (CallsIn.inRound l (callsIn_wide.2 (bletter x.val hx _))).mono ?_; rintro e w' ⟨rfl, rfl⟩; rw [HL.out])
      obtain ⟨d1, d2, hB⟩ := HD.out
      exact ⟨KeepsFrom.refl _ _, Below.refl _ _, ⟨d1, blk_same d2 (foldL_no p pre x HL.out)⟩, hB⟩
    · have HL := Lib.hid hl
      clear hl
      gi_wp2_with (refine ⟨trivial, ?_⟩; gi_at_call 47; refine (CallsIn.inRound l (callsIn_wide.2 (bletter x.val hx _))).mono ?_; rintro e w' ⟨rfl, rfl⟩; rw [HL.out])
      have hmo : Tryd.prog.follows .mixedOrders = true := by kernel_rfl
      have hxr := xor_u8 x.val hx
      have hxl := (xor32 x.val hx).1
      gi_region_with_o (first
        | (refine ⟨trivial, ?_⟩; gi_at_call 13; refine (CallsIn.inRound l (callsIn_wide.2 (bof1 _ (x.val ^^^ 32) _ hxl _ 5 (by first | exact (Blk.new _ _ _).drew | exact Blk.new _ _ _)))).mono ?_; rintro e W1 ⟨rfl, hb⟩; have HB : Below W.heap.size W W1 := (by refine gr_call ?_ hb; repeat (first | exact HB | exact Below.refl _ _ | refine gr_drew ?_ | refine gr_alloc ?_ _)); have hz : w.heap.size + 1 + 1 < W1.heap.size := (by have := HB.size; omega); obtain ⟨c0, c1, c2, c3, g0, g1, g2, g3⟩ := FoldAt.facts (w := w) (HD.out.2.1.call HB))
        | (refine ⟨trivial, ?_⟩; gi_at_call 15; refine (CallsIn.inRound l (callsIn_wide.2 (bunion2 _ _ _ _ _ 28 (by first | exact (Blk.new _ _ _).drew | exact Blk.new _ _ _)))).mono ?_; rintro e W1 ⟨rfl, hb⟩; have HB : Below W.heap.size W W1 := (by refine gr_call ?_ hb; repeat (first | exact HB | exact Below.refl _ _ | refine gr_drew ?_ | refine gr_alloc ?_ _)); have hz : w.heap.size + 1 + 1 < W1.heap.size := (by have := HB.size; omega); obtain ⟨c0, c1, c2, c3, g0, g1, g2, g3⟩ := FoldAt.facts (w := w) (HD.out.2.1.call HB)))
      all_goals
        obtain ⟨d1, d2, hB⟩ := HD.out
        have e2 := blk_same (blk_store (q' := orP (foldL p pre) (insP noP (x.val ^^^ 32))) (d2.call HB)) (foldL_yes p pre x HL.out)
        have e1 := d1.call HB
        have hk := keeps_of_below HB
        have hB3 := HB.mono hB2
        have hfin := And.intro ((((hk.trans (KeepsOthers.setCell _ ⟨w.heap.size + 1 + 1, 0, none⟩ (.int .u64 (setW (orP (foldL p pre) (insP noP (x.val ^^^ 32))) 0 : Int)))).trans (KeepsOthers.setCell _ ⟨w.heap.size + 1 + 1, 1, none⟩ (.int .u64 (setW (orP (foldL p pre) (insP noP (x.val ^^^ 32))) 1 : Int)))).trans (KeepsOthers.setCell _ ⟨w.heap.size + 1 + 1, 2, none⟩ (.int .u64 (setW (orP (foldL p pre) (insP noP (x.val ^^^ 32))) 2 : Int)))).trans (KeepsOthers.setCell _ ⟨w.heap.size + 1 + 1, 3, none⟩ (.int .u64 (setW (orP (foldL p pre) (insP noP (x.val ^^^ 32))) 3 : Int))))
          (And.intro ((((hB3.setCell (p := ⟨w.heap.size + 1 + 1, 0, none⟩) (by simp; omega) (.int .u64 (setW (orP (foldL p pre) (insP noP (x.val ^^^ 32))) 0 : Int))).setCell (p := ⟨w.heap.size + 1 + 1, 1, none⟩) (by simp; omega) (.int .u64 (setW (orP (foldL p pre) (insP noP (x.val ^^^ 32))) 1 : Int))).setCell (p := ⟨w.heap.size + 1 + 1, 2, none⟩) (by simp; omega) (.int .u64 (setW (orP (foldL p pre) (insP noP (x.val ^^^ 32))) 2 : Int))).setCell (p := ⟨w.heap.size + 1 + 1, 3, none⟩) (by simp; omega) (.int .u64 (setW (orP (foldL p pre) (insP noP (x.val ^^^ 32))) 3 : Int)))
          (And.intro ((((e1.far (p := ⟨w.heap.size + 1 + 1, 0, none⟩) (by simp) (.int .u64 (setW (orP (foldL p pre) (insP noP (x.val ^^^ 32))) 0 : Int))).far (p := ⟨w.heap.size + 1 + 1, 1, none⟩) (by simp) (.int .u64 (setW (orP (foldL p pre) (insP noP (x.val ^^^ 32))) 1 : Int))).far (p := ⟨w.heap.size + 1 + 1, 2, none⟩) (by simp) (.int .u64 (setW (orP (foldL p pre) (insP noP (x.val ^^^ 32))) 2 : Int))).far (p := ⟨w.heap.size + 1 + 1, 3, none⟩) (by simp) (.int .u64 (setW (orP (foldL p pre) (insP noP (x.val ^^^ 32))) 3 : Int))) e2))
        have HFIN := Lib.hid hfin
        have HHB := Lib.hid hB
        clear hfin e1 e2 d1 d2 hB3 hk hB c0 c1 c2 c3 g0 g1 g2 g3 hxr
        gi_wp2
        obtain ⟨q1, q2, q3, q4⟩ := HFIN.out
        first
          | exact ⟨q1.from _, q2, ⟨q3, q4⟩, HHB.out.trans q2⟩
          | exact ⟨(q1.trans (KeepsOthers.drew _)).from _, q2.drew, ⟨q3.drew, q4.drew⟩, (HHB.out.trans q2).drew⟩
  case done =>
    rintro D ys W hD rfl ⟨⟨d1, d2⟩, hB⟩ hK
    have d2 := blk_same d2 (foldL_all p)
    obtain ⟨c0, c1, c2, c3, g0, g1, g2, g3⟩ := FoldAt.facts (w := w) d2
    have a0 := d1.cell' (i := 0) rfl
    have a1 := d1.cell' (i := 1) rfl
    have a2 := d1.cell' (i := 2) rfl
    have a3 := d1.cell' (i := 3) rfl
    have f0 := d1.frozen 0
    have f1 := d1.frozen 1
    have f2 := d1.frozen 2
    have f3 := d1.frozen 3
    have hsz2 := d2.lt
    have HK := Lib.hid hK
    have HD := Lib.hid (And.intro d1 hB)
    clear hK d1 d2 hB
    gi_wp2
    obtain ⟨d1, hB⟩ := HD.out
    have hk2 := ((((KeepsOthers.setCell W ⟨w.heap.size + 1, 0, none⟩ (.int .u64 (setW (foldP p) 0 : Int))).trans (KeepsOthers.setCell _ ⟨w.heap.size + 1, 1, none⟩ (.int .u64 (setW (foldP p) 1 : Int)))).trans (KeepsOthers.setCell _ ⟨w.heap.size + 1, 2, none⟩ (.int .u64 (setW (foldP p) 2 : Int)))).trans (KeepsOthers.setCell _ ⟨w.heap.size + 1, 3, none⟩ (.int .u64 (setW (foldP p) 3 : Int)))).same D _ HK.out rfl
    refine ⟨by simp, .inl ⟨_, _, rfl, run_takeDeferred hk2, ?_⟩⟩
    have e1 : Blk ((((W.setCell ⟨w.heap.size + 1, 0, none⟩ (.int .u64 (setW (foldP p) 0 : Int))).setCell ⟨w.heap.size + 1, 1, none⟩ (.int .u64 (setW (foldP p) 1 : Int))).setCell ⟨w.heap.size + 1, 2, none⟩ (.int .u64 (setW (foldP p) 2 : Int))).setCell ⟨w.heap.size + 1, 3, none⟩ (.int .u64 (setW (foldP p) 3 : Int))) (w.heap.size + 1) 28 #[Value.int .u64 (setW (foldP p) 0 : Int), .int .u64 (setW (foldP p) 1 : Int), .int .u64 (setW (foldP p) 2 : Int), .int .u64 (setW (foldP p) 3 : Int)] := by
      simpa using (((d1.set_ 0 _).set_ 1 _).set_ 2 _).set_ 3 _
    have e2 := Blk_kept e1 (grownBy_putObj' _ D (.deferred none)) (fun r e => by cases e; exact ⟨_, hk2, rfl⟩)
    obtain ⟨u0, u1, u2, u3, _⟩ := FoldAt.facts (w := w) e2
    refine ⟨Value.agg #[.int .u64 (setW (foldP p) 0 : Int), .int .u64 (setW (foldP p) 1 : Int), .int .u64 (setW (foldP p) 2 : Int), .int .u64 (setW (foldP p) 3 : Int)], by simp [results, Tryd.f29, go_sem, u0, u1, u2, u3], rfl, ?_⟩
    exact (gr_set (gr_set (gr_set (gr_set hB (by simp) _) (by simp) _) (by simp) _) (by simp) _).trans (belowK_b (w := w) (Nat.le_refl _) _ D _ _ (by simp [hsz] at hD; omega) hk2 rfl rfl)
  case stop =>
    rintro D c pre W _ _ h _
    exact h.elim

/-! The plain contracts. -/
theorem bfold (p : Nat → Bool) (w : World) (hT : TabOk w) (hw : 0 < w.heap.size) :
    Calls Tryd.prog 29 #[Value.agg #[.int .u64 (setW p 0 : Int), .int .u64 (setW p 1 : Int), .int .u64 (setW p 2 : Int), .int .u64 (setW p 3 : Int)]] w fun e W' => e = .returned (Value.agg #[.int .u64 (setW (foldP p) 0 : Int), .int .u64 (setW (foldP p) 1 : Int), .int .u64 (setW (foldP p) 2 : Int), .int .u64 (setW (foldP p) 3 : Int)]) ∧ Below w.heap.size w W' := callsIn_wide.1 (fold_in p w hT hw)
theorem bnext (p : Nat → Bool) (a : Int) (w : World) (hT : TabOk w) (hw : 0 < w.heap.size) :
    Calls Tryd.prog 33 #[Value.agg #[.int .u64 (setW p 0 : Int), .int .u64 (setW p 1 : Int), .int .u64 (setW p 2 : Int), .int .u64 (setW p 3 : Int)], .int .i64 a] w fun e W' => e = .returned (.tuple #[.int .i64 (nxtV (nxtP p a)), .int .i64 (nxtE (nxtP p a))]) ∧ Below w.heap.size w W' := callsIn_wide.1 (next_in p a w hT hw)
theorem blist (p : Nat → Bool) (w : World) (hT : TabOk w) (hw : 0 < w.heap.size) :
    Calls Tryd.prog 35 #[Value.agg #[.int .u64 (setW p 0 : Int), .int .u64 (setW p 1 : Int), .int .u64 (setW p 2 : Int), .int .u64 (setW p 3 : Int)]] w fun e W' => ∃ v, e = .returned v ∧ W'.ownsRow w.heap.size 5 1 v (lstP p 256).length (cellsF (lstP p 256)) ∧ Below w.heap.size w W' := callsIn_wide.1 (list_in p w hT hw)
end Go.Proofs.YtcfdadgijnmemaaDoor
