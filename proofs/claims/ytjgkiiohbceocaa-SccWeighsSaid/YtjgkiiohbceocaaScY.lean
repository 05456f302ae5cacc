/-
  The reference's Parts and Loops, walked; conditions: at most 1000000 edges.
-/
import Derived.Test.YtjgkiiohbceocaaScX
import Derived.Test.YtjgkiiohbceocaaScC
import Derived.Deep.RegionHeldLaw
import Derived.Deep.AppendLies
namespace Go.Proofs.Ytjgkiiohbceocaa
open Go.RowKit
set_option linter.unusedVariables false
set_option linter.unusedSimpArgs false

/-- A whole table in a new variable. -/
theorem tab_there (W : World) (ct : Array Value) (h : ct.size = 4096) : (W.alloc (.cells Try.zeroCells73 73)).there W.heap.size 0 ct.size := by
  rw [zero_tab]
  exact there_blk (Blk.new W 73 (tabC noR)) _ (by rw [tabC_size, h])
theorem tab_stored (W : World) (ct : Array Value) (h : ct.size = 4096) : ∃ wx, (W.alloc (.cells Try.zeroCells73 73)).setCells W.heap.size 0 ct.toList = wx ∧ Blk wx W.heap.size 73 ct ∧ Below W.heap.size W wx := by
  rw [zero_tab]
  exact ⟨_, rfl, (Blk.new W 73 (tabC noR)).stored (by rw [tabC_size, h]), gr_setCells (b := W.heap.size) ct.toList 0 (gr_alloc (Below.refl _ _) _) (Nat.le_refl _)⟩

set_option maxRecDepth 100000 in
set_option maxHeartbeats 4000000 in
theorem parts_ref (n : Int) (l : List Edg) (hl : l.length ≤ 1000000) (A : Option Addr) (c : Nat) (w : World) (hA : Cells w A 2 l.length (edAt l)) :
    Calls Try.prog 24 #[.agg #[.int .i64 n, .slice A l.length c]] w fun e w' => ∃ v, e = .returned (.tuple #[v, .int .i64 (chkG n l).1]) ∧ LLAt w' v (vParts n l) ∧ Below w.heap.size w w' := by
  have b0 := gr_alloc (Below.refl w.heap.size w) (.cells #[.int .i64 n, .slice A l.length c] 24)
  have k0 := Blk.new w 24 #[.int .i64 n, .slice A l.length c]
  have hA0 := hA.below b0
  have hck := rcheck n l hl A c _ hA0
  by_cases he : (chkG n l).1 = 0
  · have hV : vParts n l = pV n l := by unfold vParts; rw [if_pos he]
    obtain ⟨m, rfl, hm, hv, hw, ht⟩ := ok_nat he
    have hR : rR (m : Int) l = rea m (relE l) := by unfold rR; rw [Int.toNat_natCast]
    have hP : pV (m : Int) l = partsV m (rea m (relE l)) := by unfold pV; rw [hR, Int.toNat_natCast]
    have hre := fun W hW => reaches_ref m hm l hl hv A c W hW
    rw [he] at hck ⊢
    rw [hV, hP]
    obtain ⟨K, hK⟩ : ∃ K : Int, K = ((chkG (m : Int) l).2 : Int) := ⟨_, rfl⟩
    obtain ⟨ln, hln⟩ : ∃ ln, ln = l.length := ⟨_, rfl⟩
    obtain ⟨ct, hct⟩ : ∃ ct, ct = tabC (rea m (relE l)) := ⟨_, rfl⟩
    have hpa := fun ev W => partsR_ref m hm (rea m (relE l)) ht ev W
    rw [← hct] at hre hpa
    rw [← hK, ← hln] at hck
    rw [← hln] at hre hA0 b0 k0 ⊢
    have H := Lib.hid (And.intro b0 (And.intro k0 (And.intro hA0 (And.intro hck (And.intro hre hpa)))))
    clear b0 k0 hA0 hA hck hre hpa hK hct hln he hV hP hR hv hw ht hl
    go_enter Try.func24, Try.ntmps24
    go_wp2_with (fail)
    refine H.out.2.2.2.1.mono ?_
    rintro e W1 ⟨rfl, h1⟩
    have kk := H.out.2.1.call h1
    have r0 := kk.cell' (i := 0) rfl
    have r1 := kk.cell' (i := 1) rfl
    have rl := kk.lt
    have hre1 := H.out.2.2.2.2.1 W1.drew (H.out.2.2.1.below (gr_drew h1))
    have D := Lib.hid (gr_call H.out.1 h1)
    clear h1 kk
    go_wp2_with (fail)
    go_region_held_law (fun w' => w'.cell? ⟨w.heap.size, 0, none⟩ = some (.int .i64 (m : Int)) ∧ w'.cell? ⟨w.heap.size, 1, none⟩ = some (.slice A ln c))
      (first
        | ((try simp only [World.cell?_drew]); (refine ⟨?_, ?_⟩ <;> assumption))
        | exact ⟨(h2.cell (p := ⟨w.heap.size, 0, none⟩) rl).trans r0, (h2.cell (p := ⟨w.heap.size, 1, none⟩) rl).trans r1⟩
        | exact ⟨(h3.cell (p := ⟨w.heap.size, 0, none⟩) rl3).trans s0, (h3.cell (p := ⟨w.heap.size, 1, none⟩) rl3).trans s1⟩)
      ((first
        | (go_at_call 45; refine hre1.mono ?_; rintro e w2 ⟨rfl, h2⟩; have s0 := (h2.cell (p := ⟨w.heap.size, 0, none⟩) rl).trans r0; have s1 := (h2.cell (p := ⟨w.heap.size, 1, none⟩) rl).trans r1; have rl3 : w.heap.size < w2.heap.size := Nat.lt_of_lt_of_le rl h2.size)
        | (go_at_call 55; refine (H.out.2.2.2.2.2 _ _).mono ?_; rintro e w3 ⟨v, rfl, h4, h3⟩)))
    have F := Lib.hid (And.intro h4 (gr_call D.out ((gr_drew (Below.refl W1.heap.size W1)).trans (h2.trans (h3.mono h2.size)))))
    clear h2 h3 h4
    go_wp2_with (fail)
    go_ret2
    exact ⟨_, rfl, F.out.1.at_, F.out.2⟩
  · have hV : vParts n l = [] := by unfold vParts; rw [if_neg he]
    rw [hV]
    obtain ⟨E, hE⟩ : ∃ E, E = (chkG n l).1 := ⟨_, rfl⟩
    obtain ⟨K, hK⟩ : ∃ K : Int, K = ((chkG n l).2 : Int) := ⟨_, rfl⟩
    obtain ⟨ln, hln⟩ : ∃ ln, ln = l.length := ⟨_, rfl⟩
    rw [← hE, ← hK] at hck
    rw [← hE] at he ⊢
    rw [← hln] at hck b0 ⊢
    have H := Lib.hid (And.intro b0 hck)
    have he' : (E != 0) = true := by simpa using he
    clear b0 k0 hck hA0 hA hE hK hln hl he hV
    go_enter Try.func24, Try.ntmps24
    go_wp2_with (fail)
    refine H.out.2.mono ?_
    rintro e W1 ⟨rfl, h1⟩
    have D := Lib.hid (gr_call H.out.1 h1)
    clear h1
    go_wp2_with (fail)
    go_ret2
    exact ⟨_, rfl, ⟨none, 0, rfl, fun h => absurd rfl h⟩, D.out⟩

set_option maxRecDepth 100000 in
set_option maxHeartbeats 4000000 in
theorem loops_ref (n : Int) (l : List Edg) (hl : l.length ≤ 1000000) (A : Option Addr) (c : Nat) (w : World) (hA : Cells w A 2 l.length (edAt l)) :
    Calls Try.prog 26 #[.agg #[.int .i64 n, .slice A l.length c]] w fun e w' => ∃ v, e = .returned (.tuple #[v, .int .i64 (chkG n l).1]) ∧ CellsAt w' v (boolL (vLoops n l)) ∧ Below w.heap.size w w' := by
  have b0 := gr_alloc (Below.refl w.heap.size w) (.cells #[.int .i64 n, .slice A l.length c] 24)
  have k0 := Blk.new w 24 #[.int .i64 n, .slice A l.length c]
  have hA0 := hA.below b0
  have hck := rcheck n l hl A c _ hA0
  by_cases he : (chkG n l).1 = 0
  · have hV : vLoops n l = loopsV n l := by unfold vLoops; rw [if_pos he]
    obtain ⟨m, rfl, hm, hv, hw, ht⟩ := ok_nat he
    have hR : rR (m : Int) l = rea m (relE l) := by unfold rR; rw [Int.toNat_natCast]
    have hP : pV (m : Int) l = partsV m (rea m (relE l)) := by unfold pV; rw [hR, Int.toNat_natCast]
    have hre := fun W hW => reaches_ref m hm l hl hv A c W hW
    rw [he] at hck ⊢
    rw [hV]
    obtain ⟨K, hK⟩ : ∃ K : Int, K = ((chkG (m : Int) l).2 : Int) := ⟨_, rfl⟩
    obtain ⟨ln, hln⟩ : ∃ ln, ln = l.length := ⟨_, rfl⟩
    obtain ⟨ct, hct⟩ : ∃ ct, ct = tabC (rea m (relE l)) := ⟨_, rfl⟩
    have hpa := fun ev W => partsR_ref m hm (rea m (relE l)) ht ev W
    rw [← hct] at hre hpa
    rw [← hK, ← hln] at hck
    rw [← hln] at hre hA0 b0 k0 ⊢
    have hpw := parts_what ht hm
    obtain ⟨np, hnp⟩ : ∃ np, np = (partsV m (rea m (relE l))).length := ⟨_, rfl⟩
    have hnp64 : np ≤ 64 := by rw [hnp]; exact hpw.1
    have hcz : ct.size = 4096 := by rw [hct, tabC_size]
    have hone : ct.all (·.oneCell') = true := by rw [hct]; exact tabC_one _
    have hi2 : (Try.prog.info? 73).map (·.size) = some ct.size := by rw [hcz]; exact infoTab
    have hi1 : (Try.prog.info? 73).map (·.size) = some ct.toList.length := by rw [Array.length_toList]; exact hi2
    have H := Lib.hid (And.intro b0 (And.intro k0 (And.intro hA0 (And.intro hck (And.intro hre hpa)))))
    have M := Lib.hid (And.intro hR (And.intro hP (And.intro hnp (And.intro hpw (And.intro hct ht)))))
    obtain ⟨i0, hi0, hz0, hz1, hz2⟩ := info_parts infoBool
    clear b0 k0 hA0 hA hck hre hpa hK hct hln he hV hP hR hv hw ht hl hpw hnp
    go_enter Try.func26, Try.ntmps26
    go_wp2_with (fail)
    refine H.out.2.2.2.1.mono ?_
    rintro e W1 ⟨rfl, h1⟩
    have kk := H.out.2.1.call h1
    have r0 := kk.cell' (i := 0) rfl
    have r1 := kk.cell' (i := 1) rfl
    have rl := kk.lt
    have D := Lib.hid (And.intro (gr_call H.out.1 h1) (And.intro (H.out.2.2.2.2.1 W1 (H.out.2.2.1.below h1)) kk))
    clear h1 kk
    go_wp2_with (fail)
    refine D.out.2.1.mono ?_
    rintro e W2 ⟨rfl, h2⟩
    obtain ⟨wx, hwx, kx, bx⟩ := tab_stored W2 ct hcz
    have thr := tab_there W2 ct hcz
    have kk := (D.out.2.2.call h2).call bx
    have s0 := kk.cell' (i := 0) rfl
    have s1 := kk.cell' (i := 1) rfl
    have sl := kk.lt
    have rN := range_blk kx
    have hbw := gr_call (gr_call D.out.1 h2) bx
    have hz := h2.size
    have F := Lib.hid (And.intro hbw (And.intro kx (H.out.2.2.2.2.2 (.slice A ln c) wx)))
    clear h2 kk bx kx hbw
    go_wp2_with (first | (refine wpList_store_mid rfl 73 _ _ rfl W2.heap.size 0 ct rfl rfl thr hi2 hone ?_; rw [hwx]; clear thr hi2 hone hwx) | refine wpList_load_mid rfl 73 _ rfl W2.heap.size 0 (by rfl) ct.toList _ rN Try.underlying73 rfl hi1 ?_)
    refine F.out.2.2.mono ?_
    rintro e W3 ⟨v, rfl, h4, h3⟩
    have hll := h4.at_
    rw [show partsV m (rea m (relE l)) = partsV m (rea m (relE l)) from rfl] at hll
    obtain ⟨pA, pc, rfl, hex⟩ := hll.ex
    have kt := F.out.2.1.call h3
    have G := Lib.hid (And.intro (gr_call F.out.1 h3) (And.intro kt hex))
    clear h3 h4 hll kt hex rN
    rw [← M.out.2.2.1]
    go_wp2_with (fail)
    go_loopg [9, 8] np (fun q iv ov wr => ∃ i : Nat, q = np - i ∧ i ≤ np ∧ iv = .int .i64 (i : Int) ∧ Below W3.heap.size W3 wr ∧ wr.ownsRow W3.heap.size 4 1 ov i (boolL ((loopsV (m : Int) l).take i)))
    case atStart => exact ⟨0, rfl, Nat.zero_le _, rfl, Below.refl _ _, World.ownsRow_nil _ _ _ _⟩
    case round =>
      obtain ⟨i, hq, hi, rfl, hbel, hown⟩ := hrel
      by_cases hin : i < np
      · obtain ⟨cc, hcc⟩ : ∃ cc, (partsV m (rea m (relE l)))[i]? = some cc := ⟨_, List.getElem?_eq_getElem (by rw [← M.out.2.2.1]; exact hin)⟩
        obtain ⟨g, rfl, hgl, hcells⟩ := G.out.2.2 (fun e => by rw [e] at hcc; simp at hcc)
        obtain ⟨u, cu, ⟨Au, uc, rfl, hue⟩⟩ := hcells i cc hcc
        obtain ⟨hne, hcl, hlt⟩ := M.out.2.2.2.1.2 cc (List.mem_of_getElem? hcc)
        obtain ⟨gu, ou, rfl, gul, huc⟩ := hue hne
        obtain ⟨a, tl, rfl⟩ : ∃ a tl, cc = a :: tl := ⟨cc.head hne, cc.tail, (List.cons_head_tail hne).symm⟩
        have cx := (hbel.cell (p := ⟨gu, ou + 0, none⟩) gul).trans (huc 0 a rfl)
        have cu' := (hbel.cell (p := ⟨g, i, none⟩) hgl).trans cu
        have ha := hlt a (by simp)
        have ha7 : (a : Int) < 64 := by omega
        have kt := G.out.2.1.call hbel
        rw [M.out.2.2.2.2.1] at kt
        have ctt := kt.cell' (tabC_at (rea m (relE l)) ha ha)
        have lt73 := kt.lt
        have bz := hbel.size
        have hgu' : gu < wr.heap.size := by omega
        have hgl' : g < wr.heap.size := by omega
        have hi' : (i : Int) < (np : Int) := by omega
        have hlp : (0 : Int) < ((a :: tl).length : Int) := by simp
        obtain ⟨ml, hml⟩ : ∃ ml, ml = (a :: tl).length := ⟨_, rfl⟩
        rw [← hml] at cu' hlp
        rw [Nat.add_zero] at cx
        obtain ⟨oa, oc, rfl⟩ := own_slice hown
        have hlo : ∀ q, Value.ownBlock (.slice oa i oc) = some q → W3.heap.size ≤ q := fun q hq => (hown.lt q hq).1
        have nt : Value.ownBlock (.slice oa i oc) ≠ some W2.heap.size := fun e => own_blk_ne hown kt (by decide) e.symm
        have nu : Value.ownBlock (.slice oa i oc) ≠ some gu := fun e => by have := hlo gu e; omega
        have ng : Value.ownBlock (.slice oa i oc) ≠ some g := fun e => by have := hlo g e; omega
        have hstep : boolL ((loopsV (m : Int) l).take (i + 1)) = boolL ((loopsV (m : Int) l).take i) ++ [.bool (rea m (relE l) a a)] := by
          have h1 := loopsV_at (n := (m : Int)) (l := l) (i := i) (cc := a :: tl) (by rw [M.out.2.1]; exact hcc)
          rw [M.out.1] at h1
          unfold boolL
          rw [List.take_add_one, h1, List.map_append]; rfl
        obtain ⟨rb, hrb⟩ : ∃ rb, rb = rea m (relE l) a a := ⟨_, rfl⟩
        rw [← hrb] at ctt hstep
        have hown2 := (hown.alloc (.cells #[.bool rb] 4)).drew
        have P := Lib.hid (And.intro hown (And.intro hbel (And.intro hq hstep)))
        clear hown hbel hq hstep huc cu hue hcells hcc hne hcl hlt hml hrb kt
        go_wp2_with (fail)
        go_region_held_law (fun w' => w'.cell? ⟨g, i, none⟩ = some (.slice (some ⟨gu, ou, none⟩) ml uc) ∧ w'.cell? ⟨gu, ou, none⟩ = some (.int .i64 (a : Int)) ∧ w'.cell? ⟨W2.heap.size, a * 64 + a, none⟩ = some (.bool rb))
          (first
            | (go_split_ands
               try simp only [World.cell?_drew]
               refine ⟨?_, ?_, ?_⟩
               · (rw [World.cell?_alloc_lt _ _ _ hgl']; assumption)
               · (rw [World.cell?_alloc_lt _ _ _ hgu']; assumption)
               · (rw [World.cell?_alloc_lt _ _ _ lt73]; assumption))
            | (go_split_ands
               refine ⟨?_, ?_, ?_⟩
               · (rw [hgrow.cell_far _ (by simp; omega) (Ne.symm ng)]; assumption)
               · (rw [hgrow.cell_far _ (by simp; omega) (Ne.symm nu)]; assumption)
               · (rw [hgrow.cell_far _ (by simp; omega) (Ne.symm nt)]; assumption))
            | (try simp only [World.cell?_drew]
               refine ⟨?_, ?_, ?_⟩ <;> assumption))
          ((refine step_append_lies _ (by rfl) _ _ _ (by rfl) W3.heap.size 4 i0 _ 1 1 Try.underlying44 hi0 hz0 hz1 hz2 rfl (by omega) (.slice oa i oc) i (boolL ((loopsV (m : Int) l).take i)) (by rfl) hown2
                ⟨wr.heap.size, 0, none⟩ 1 1 [.bool rb] (by rfl) (by rfl) (World.news_of_block (cs := #[.bool rb]) (t := 4) (fr := (0, 0)) (heap_alloc_new wr _)) (by simp [Value.oneCell'])
                (by omega) (by unfold maxLen; omega) (by omega) (by simp; omega) (wr.heap.size + 1) (by simp) ?_; intro gg cap2 w1 hown1 hgrow hat hlt))
        all_goals
          have F2 := Lib.hid (And.intro hown1 hgrow)
          clear hown1 hgrow hat hlt
          go_wp2_with (fail)
          go_roundg (np - (i + 1))
          case measure => have := P.out.2.2.1; omega
          case rel =>
            refine ⟨i + 1, rfl, hin, rfl, ((gr_drew (gr_alloc P.out.2.1 (.cells #[.bool rb] 4))).grown F2.out.2 (by simp; omega) hlo), ?_⟩
            rw [P.out.2.2.2]
            exact F2.out.1
      · have ei : i = np := by omega
        subst i
        have hall : boolL ((loopsV (m : Int) l).take np) = boolL (loopsV (m : Int) l) := by
          rw [List.take_of_length_le (by rw [loopsV_len, M.out.2.1, M.out.2.2.1]; exact Nat.le_refl _)]
        rw [hall] at hown
        have P := Lib.hid (And.intro hown hbel)
        clear hown hbel hin hall
        go_wp2_with (fail)
        go_ret2
        exact ⟨_, rfl, own_cells P.out.1, gr_call G.out.1 P.out.2⟩
  · have hV : vLoops n l = [] := by unfold vLoops; rw [if_neg he]
    rw [hV]
    obtain ⟨E, hE⟩ : ∃ E, E = (chkG n l).1 := ⟨_, rfl⟩
    obtain ⟨K, hK⟩ : ∃ K : Int, K = ((chkG n l).2 : Int) := ⟨_, rfl⟩
    obtain ⟨ln, hln⟩ : ∃ ln, ln = l.length := ⟨_, rfl⟩
    rw [← hE, ← hK] at hck
    rw [← hE] at he ⊢
    rw [← hln] at hck b0 ⊢
    have H := Lib.hid (And.intro b0 hck)
    have he' : (E != 0) = true := by simpa using he
    clear b0 k0 hck hA0 hA hE hK hln hl he hV
    go_enter Try.func26, Try.ntmps26
    go_wp2_with (fail)
    refine H.out.2.mono ?_
    rintro e W1 ⟨rfl, h1⟩
    have D := Lib.hid (gr_call H.out.1 h1)
    clear h1
    go_wp2_with (fail)
    go_ret2
    exact ⟨_, rfl, CellsAt.nil _, D.out⟩
end Go.Proofs.Ytjgkiiohbceocaa
