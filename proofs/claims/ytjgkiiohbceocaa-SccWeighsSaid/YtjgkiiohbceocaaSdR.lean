/-
  The reference's Heaviest, walked; conditions: at most 1000000 edges and weights.
-/
import Derived.Test.YtjgkiiohbceocaaSdQ
namespace Go.Proofs.Ytjgkiiohbceocaa
open Go.RowKit
set_option linter.unusedVariables false
set_option linter.unusedSimpArgs false

/-- The two lists of numbers that the function fills. -/
structure HwOk (W : World) (gO gB np : Nat) (o b : Nat → Nat) : Prop where
  own : Blk W gO 3 (numC np o)
  best : Blk W gB 3 (numC np b)
  ne : gO ≠ gB
theorem HwOk.below {W W' : World} {gO gB np : Nat} {o b : Nat → Nat} (h : HwOk W gO gB np o b) (hb : Below W.heap.size W W') : HwOk W' gO gB np o b := ⟨h.own.call hb, h.best.call hb, h.ne⟩
theorem HwOk.congr {W : World} {gO gB np : Nat} {o b o' b' : Nat → Nat} (h : HwOk W gO gB np o b) (ho : ∀ k, k < np → o' k = o k) (hb : ∀ k, k < np → b' k = b k) : HwOk W gO gB np o' b' := by
  refine ⟨?_, ?_, h.ne⟩
  · rw [numC_congr (f := o') (g := o) (fun k hk => (ho k hk).symm)]; exact h.own
  · rw [numC_congr (f := b') (g := b) (fun k hk => (hb k hk).symm)]; exact h.best
theorem HwOk.setOwn {W : World} {gO gB np : Nat} {o b : Nat → Nat} (h : HwOk W gO gB np o b) {i : Nat} (hi : i < np) (x : Nat) : HwOk (W.setCell ⟨gO, i, none⟩ (.int .i64 (x : Int))) gO gB np (upd o i x) b := by
  refine ⟨?_, h.best.far (p := ⟨gO, i, none⟩) (Ne.symm h.ne) _, h.ne⟩
  rw [← numC_set (f := o) (g := upd o i x) hi (upd_same _ _ _) (fun j _ hj => upd_other _ _ hj)]
  exact h.own.set_ i _
theorem HwOk.setBest {W : World} {gO gB np : Nat} {o b : Nat → Nat} (h : HwOk W gO gB np o b) {i : Nat} (hi : i < np) (x : Nat) : HwOk (W.setCell ⟨gB, i, none⟩ (.int .i64 (x : Int))) gO gB np o (upd b i x) := by
  refine ⟨h.own.far (p := ⟨gB, i, none⟩) h.ne _, ?_, h.ne⟩
  rw [← numC_set (f := b) (g := upd b i x) hi (upd_same _ _ _) (fun j _ hj => upd_other _ _ hj)]
  exact h.best.set_ i _
theorem upd_upd {α : Type} (f : Nat → α) (i : Nat) (x y : α) (k : Nat) : upd (upd f i x) i y k = upd f i y k := by
  by_cases h : k = i
  · subst h; rw [upd_same, upd_same]
  · rw [upd_other _ _ h, upd_other _ _ h, upd_other _ _ h]
theorem hvS_upd (np : Nat) (e : Nat → Nat → Bool) (own : Nat → Nat) (j k : Nat) : (hvS np e own (j + 1) k).1 = upd (fun k => (hvS np e own j k).1) (np - 1 - j) (hvI e own (np - 1 - j) (hvS np e own j) j).1 k := by
  show (upd (hvS np e own j) (np - 1 - j) (hvI e own (np - 1 - j) (hvS np e own j) j) k).1 = _
  by_cases h : k = np - 1 - j
  · subst h; rw [upd_same, upd_same]
  · rw [upd_other _ _ h, upd_other _ _ h]
theorem argM_ok {B : Nat → Nat} : ∀ {i : Nat}, 0 < i → ∃ a, argM B i = some a ∧ a < i := fun {i} h => by
  obtain ⟨a, h1, h2, _⟩ := argM_some B i h
  exact ⟨a, h1, h2⟩
theorem argM_next {B : Nat → Nat} {i a : Nat} (h : argM B i = some a) : argM B (i + 1) = if B a < B i then some i else some a := by
  show (match argM B i with | none => some i | some a => if B a < B i then some i else some a) = _
  rw [h]

set_option maxRecDepth 100000 in
set_option maxHeartbeats 16000000 in
theorem heavy_refA (m : Nat) (hm : m ≤ 64) (l : List Edg) (hl : l.length ≤ 1000000) (hv : ∀ e ∈ l, okEd m e) (he : (chkG m l).1 = 0) (hw : Within m (relE l)) (ht : Trans' (rea m (relE l))) (wl : List Int) (hwl : wl.length = m) (hbd : wl.any badW = false)
    (A : Option Addr) (c : Nat) (wv : Value) (w : World) (hA : Cells w A 2 l.length (edAt l)) (hW : CellsAt w wv (intL wl)) :
    Calls Try.prog 19 #[.agg #[.int .i64 (m : Int), .slice A l.length c], wv] w fun e w' => ∃ v, e = .returned (.tuple #[.int .i64 ((hvV m (relE l) wl (partsV m (rea m (relE l)))).1 : Int), v, .int .i64 0]) ∧ NatsAt w' v (hvV m (relE l) wl (partsV m (rea m (relE l)))).2 ∧ Below w.heap.size w w' := by
  have b0 := gr_alloc (Below.refl w.heap.size w) (.cells #[.int .i64 (m : Int), .slice A l.length c] 24)
  have k0 := Blk.new w 24 #[.int .i64 (m : Int), .slice A l.length c]
  have hA0 := hA.below b0
  have hW0 := hW.below b0
  have hco := condense_ref (m : Int) l hl A c _ hA0
  have hpr := fun W hW => parts_ref (m : Int) l hl A c W hW
  have hR : rR (m : Int) l = rea m (relE l) := by unfold rR; rw [Int.toNat_natCast]
  have hP : pV (m : Int) l = partsV m (rea m (relE l)) := by unfold pV; rw [hR, Int.toNat_natCast]
  have hN : vCondN (m : Int) l = ((pV (m : Int) l).length : Int) := by unfold vCondN; rw [if_pos he]
  have hC : vCond (m : Int) l = (condV (m : Int) l).map conE := by unfold vCond; rw [if_pos he]
  have hVP : vParts (m : Int) l = pV (m : Int) l := by unfold vParts; rw [if_pos he]
  have hV : condV (m : Int) l = condL (partsV m (rea m (relE l))).length (edgP (relE l) (partsV m (rea m (relE l)))) := by unfold condV; rw [hP]
  rw [hN, hC, hP, hV, he] at hco
  rw [hVP, hP, he] at hpr
  have hpw := parts_what ht hm
  have htopo : ∀ i k, k ≤ i → k ≠ i → edgP (relE l) (partsV m (rea m (relE l))) i k = false := by
    intro i k h1 h2
    cases e : edgP (relE l) (partsV m (rea m (relE l))) i k with
    | false => rfl
    | true => have := edgP_topo hw (fun h => h2 h.symm) e; omega
  have hpos : 0 < m → 0 < (partsV m (rea m (relE l))).length := by
    intro hk
    have := partI_lt ht hk
    unfold partsV
    rw [List.length_map]
    omega
  have hlt : ∀ (i : Nat) (cc : List Nat) (x : Nat), (partsV m (rea m (relE l)))[i]? = some cc → x ∈ cc → x < m := by
    intro i cc x hc hx
    obtain ⟨r, hr, rfl⟩ := partsV_at hc
    exact (mem_mem.1 hx).1
  have hz0 : m = 0 → (partsV m (rea m (relE l))) = [] := by
    intro h0
    have : (partsV m (rea m (relE l))).length = 0 := by
      refine Classical.byContradiction fun h => ?_
      obtain ⟨cc, hcc⟩ : ∃ cc, (partsV m (rea m (relE l)))[0]? = some cc := ⟨_, List.getElem?_eq_getElem (by omega)⟩
      obtain ⟨x, hx⟩ := List.exists_mem_of_ne_nil cc (hpw.2 cc (List.mem_of_getElem? hcc)).1
      have := hlt 0 cc x hcc hx
      omega
    exact List.eq_nil_of_length_eq_zero this
  obtain ⟨WA, wc, hwv, hwx⟩ := hW0.ex
  rw [intL_len, hwl] at hwv
  subst hwv
  obtain ⟨ls, hls⟩ : ∃ ls, ls = partsV m (rea m (relE l)) := ⟨_, rfl⟩
  rw [← hls] at hco hpw htopo hpr hlt hpos hz0 ⊢
  obtain ⟨E, hE⟩ : ∃ E, E = relE l := ⟨_, rfl⟩
  rw [← hE] at hco htopo ⊢
  obtain ⟨e, hee⟩ : ∃ e, e = edgP E ls := ⟨_, rfl⟩
  obtain ⟨np, hnp⟩ : ∃ np, np = ls.length := ⟨_, rfl⟩
  obtain ⟨own, hown⟩ : ∃ own, own = ownF wl ls := ⟨_, rfl⟩
  have ho : ∀ i, own i ≤ 1000 := fun i => by rw [hown]; exact ownF_le hbd ls i
  have hVV : hvV m E wl ls = match argM (bstF np e own) np with | none => (0, []) | some a => hvF np e own a := by
    rw [hnp, hown, hee]; rfl
  rw [← hee] at hco htopo
  rw [← hnp] at hco hpos
  have hnp64 : np ≤ 64 := by rw [hnp]; exact hpw.1
  obtain ⟨L, hL⟩ : ∃ L, L = condL np e := ⟨_, rfl⟩
  rw [← hL] at hco
  have hLlen : L.length ≤ 4096 := by rw [hL]; exact Nat.le_trans (condL_len _ _) (Nat.le_trans (Nat.mul_le_mul hnp64 hnp64) (by decide))
  obtain ⟨RV, hRV⟩ : ∃ RV, RV = hvV m E wl ls := ⟨_, rfl⟩
  rw [← hRV] at hVV ⊢
  obtain ⟨ln, hln⟩ : ∃ ln, ln = l.length := ⟨_, rfl⟩
  rw [← hln] at hco hpr
  rw [← hln] at hA0 b0 k0 hW0 ⊢
  have hmk := fun W => mk_vec (t := 25) (z := .int .i64 0) Try.underlying25 infoInt rfl (by decide) np (by omega) W
  have H := Lib.hid (And.intro b0 (And.intro k0 (And.intro hA0 (And.intro hco (And.intro hpr (And.intro hW0 hwx))))))
  have M := Lib.hid (And.intro hnp (And.intro hpw (And.intro htopo (And.intro hL (And.intro hLlen (And.intro hlt (And.intro hown (And.intro ho (And.intro hVV (And.intro hwl (And.intro hbd (And.intro hpos hz0))))))))))))
  clear hlt b0 k0 hA0 hA hco hpr hln he hl hv hpw hR hP hw ht hN hC hV hVP hnp hls htopo hee hL hLlen hown ho hVV hwl hbd hpos hz0 hW hW0 hwx hRV hE
  go_enter Try.func19, Try.ntmps19
  go_wp2_with (fail)
  refine H.out.2.2.2.1.mono ?_
  rintro e0 W1 ⟨vE, rfl, hE, h1⟩
  obtain ⟨eA, ec, rfl, hcl⟩ := hE
  have hlm : (L.map conE).length = L.length := List.length_map _
  rw [hlm] at hcl ⊢
  clear hlm
  obtain ⟨nL, hnL⟩ : ∃ x, x = L.length := ⟨_, rfl⟩
  rw [← hnL] at hcl ⊢
  have kk := (H.out.2.1.call h1).alloc (.cells #[.int .i64 (np : Int), .slice eA nL ec] 24)
  have kC := Blk.new W1 24 #[.int .i64 (np : Int), .slice eA nL ec]
  have bC := gr_alloc (gr_call H.out.1 h1) (.cells #[.int .i64 (np : Int), .slice eA nL ec] 24)
  have hW1 := H.out.2.2.2.2.2.1.below (gr_alloc h1 (.cells #[.int .i64 (np : Int), .slice eA nL ec] 24))
  have hA1 := H.out.2.2.1.below (gr_alloc h1 (.cells #[.int .i64 (np : Int), .slice eA nL ec] 24))
  have r0 := kk.cell' (i := 0) rfl
  have r1 := kk.cell' (i := 1) rfl
  have rl := kk.lt
  have hcl1 := hcl.below (gr_alloc (Below.refl W1.heap.size W1) (.cells #[.int .i64 (np : Int), .slice eA nL ec] 24))
  have D := Lib.hid (And.intro bC (And.intro hcl1 (And.intro kk (And.intro kC (And.intro hW1 (And.intro hA1 hnL))))))
  clear h1 kk hcl hcl1 bC kC hnL hW1 hA1
  go_wp2_with (fail)
  obtain ⟨X1, hX1⟩ : ∃ X1, W1.alloc (.cells #[.int .i64 (np : Int), .slice eA nL ec] 24) = X1 := ⟨_, rfl⟩
  have hWX : W1.heap.size < X1.heap.size := by rw [← hX1]; simp
  rw [hX1] at r0 r1 rl D ⊢
  clear hX1
  clear r0 r1 rl
  go_loopg [9, 8] m (fun q kv ev wr => ∃ k : Nat, q = m - k ∧ k ≤ m ∧ kv = .int .i64 (k : Int) ∧ ev = .int .i64 0 ∧ Below X1.heap.size X1 wr)
  case atStart => exact ⟨0, rfl, Nat.zero_le _, rfl, rfl, Below.refl _ _⟩
  case round =>
    obtain ⟨k, hq, hk, rfl, rfl, hbel⟩ := hrel
    by_cases hkm : k < m
    · have hk' : (k : Int) < (m : Int) := by omega
      obtain ⟨y, hy1, hy2, hy3⟩ := wN_at (wl := wl) (k := k) (by rw [M.out.2.2.2.2.2.2.2.2.2.1]; exact hkm) M.out.2.2.2.2.2.2.2.2.2.2.1
      obtain ⟨A', c', hsl, hwc⟩ := (D.out.2.2.2.2.1.below hbel).ex
      obtain ⟨wg, wo', hwa, hwl, hwcc⟩ := hwc (fun e => by have := intL_at hy1; rw [e] at this; cases this)
      have hWA : WA = some ⟨wg, wo', none⟩ := by injection hsl with h1; rw [h1, hwa]
      have cw := hwcc k _ (intL_at hy1)
      rw [hy2] at cw
      obtain ⟨b, hb⟩ : ∃ b, b = wN wl k := ⟨_, rfl⟩
      rw [← hb] at cw hy3
      subst hWA
      have hb3 : (b : Int) ≤ 1000 := by omega
      have hb0 : (0 : Int) ≤ (b : Int) := by omega
      have F := Lib.hid (And.intro hbel hq)
      clear hbel hq hy1 hy2 hy3 hsl hwc hwa hwcc hb
      go_wp2_with (fail)
      go_roundg (m - (k + 1))
      case measure => have := F.out.2; omega
      case rel => exact ⟨k + 1, rfl, hkm, by simp, rfl, F.out.1⟩
    · have ek : k = m := by omega
      subst k
      have kA := D.out.2.2.1.call hbel
      have a0 := kA.cell' (i := 0) rfl
      have a1 := kA.cell' (i := 1) rfl
      have la := kA.lt
      by_cases hm0 : m = 0
      · have h00 : (m : Int) = 0 := by omega
        have hR0 : RV = (0, []) := by
          rw [M.out.2.2.2.2.2.2.2.2.1, M.out.1, M.out.2.2.2.2.2.2.2.2.2.2.2.2 hm0]; rfl
        have h00' : ((m : Int) == 0) = true := by simpa using hm0
        have F := Lib.hid (And.intro hbel hR0)
        clear hbel hq hkm hR0 kA hm0
        go_wp2_with (fail)
        go_ret3
        exact ⟨_, by rw [F.out.2]; rfl, by rw [F.out.2]; exact NatsAt.nil _, gr_call D.out.1 F.out.1⟩
      · have h00 : ¬ ((m : Int) = 0) := by omega
        have h00' : ((m : Int) == 0) = false := by simpa using hm0
        have hpos := M.out.2.2.2.2.2.2.2.2.2.2.2.1 (by omega)
        have F := Lib.hid (And.intro hbel (D.out.2.2.2.2.2.1.below hbel))
        clear hbel hq hkm kA hm0
        go_wp2_with (fail)
        refine (H.out.2.2.2.2.1 _ F.out.2).mono ?_
        rintro e W2 ⟨v, rfl, hll, h2⟩
        obtain ⟨pA, pc, hpe, hex⟩ := hll.ex
        subst hpe
        rw [← M.out.1] at hll ⊢
        have hb2 := gr_call F.out.1 h2
        have kC := D.out.2.2.2.1.call hb2
        have c0 := kC.cell' (i := 0) rfl
        have lc := kC.lt
        have c0A := (kC.alloc (.cells (numC np fun _ => 0) 3)).cell' (i := 0) rfl
        have lcA := (kC.alloc (.cells (numC np fun _ => 0) 3)).lt
        have N := Lib.hid (And.intro (gr_call D.out.1 hb2) (And.intro (D.out.2.1.below hb2) (And.intro kC (And.intro (D.out.2.2.2.2.1.below hb2) hex))))
        clear h2 hb2 hll hex kC a0 a1 la h00 h00'
        go_wp2_with (fail)
        go_region
        · obtain ⟨X, hX⟩ : ∃ X, (((W2.alloc (.cells (vecC np fun x => .int .i64 0) 3)).alloc (.cells (vecC np fun x => .int .i64 0) 3)).drew) = X := ⟨_, rfl⟩
          have q0 : Blk X W2.heap.size 3 (numC np fun _ => 0) := by rw [← hX]; exact ((Blk.new W2 3 (numC np fun _ => 0)).alloc _).drew
          have q1 : Blk X (W2.heap.size + 1) 3 (numC np fun _ => 0) := by rw [← hX]; exact Blk.drew (blk_at (by simp))
          have bX : Below W2.heap.size W2 X := by rw [← hX]; exact gr_drew (gr_alloc (gr_alloc (Below.refl _ _) _) _)
          rw [hX]
          clear hX c0A lcA hmk
          obtain ⟨gO, hgO⟩ : ∃ g, g = W2.heap.size := ⟨_, rfl⟩
          obtain ⟨gB, hgB⟩ : ∃ g, g = W2.heap.size + 1 := ⟨_, rfl⟩
          have hok : HwOk X gO gB np (fun _ => 0) (fun _ => 0) := by rw [hgO, hgB]; exact ⟨q0, q1, by omega⟩
          have hO : W2.heap.size ≤ gO := by omega
          have hB : W2.heap.size ≤ gB := by omega
          rw [← hgB, ← hgO]
          clear q0 q1
          have P := Lib.hid (And.intro bX hok)
          have w1 : IntKind.i64.wrap ((np : Int) - 1) = (np : Int) - 1 := IntWalk.i64_in _ (by omega)
          have c0X := (N.out.2.2.1.call bX).cell' (i := 0) rfl
          have lcX := (N.out.2.2.1.call bX).lt
          clear bX hok hgO hgB c0 lc
          go_wp2_with (fail)
          go_loopg [14] np (fun q iv wr => ∃ j : Nat, q = np - j ∧ j ≤ np ∧ iv = .int .i64 ((np : Int) - 1 - (j : Int)) ∧ Below W2.heap.size W2 wr ∧ HwOk wr gO gB np (ownT np own j) (fun k => (hvS np e own j k).1))
          case atStart =>
            exact ⟨0, rfl, Nat.zero_le _, by simp, P.out.1, P.out.2.congr (fun k hk => ownT_low (by omega)) (fun k _ => rfl)⟩
          case round =>
            obtain ⟨j, hq, hj, rfl, hbel, hok⟩ := hrel
            by_cases hjn : j < np
            · obtain ⟨i, hi⟩ : ∃ i : Nat, i = np - 1 - j := ⟨_, rfl⟩
              have hin : i < np := by omega
              have hiI : (np : Int) - 1 - (j : Int) = (i : Int) := by omega
              rw [hiI]
              have hi0 : (0 : Int) ≤ (i : Int) := by omega
              have hi' : (i : Int) < (np : Int) := by omega
              have wi : IntKind.i64.wrap ((i : Int) - 1) = (i : Int) - 1 := IntWalk.i64_in _ (by omega)
              obtain ⟨cc, hcc⟩ : ∃ x, ls[i]? = some x := ⟨_, List.getElem?_eq_getElem (by rw [← M.out.1]; exact hin)⟩
              obtain ⟨g, hg, hgl, hcells⟩ := N.out.2.2.2.2 (fun e => by rw [e] at hcc; simp at hcc)
              obtain ⟨u, hcu, hu⟩ := hcells i cc hcc
              obtain ⟨ua, uc, hue, huc⟩ := hu.ex
              obtain ⟨nu, hnu⟩ : ∃ x, x = cc.length := ⟨_, rfl⟩
              rw [← hnu] at hue
              subst hue hg
              obtain ⟨hcn, hc64, hcx⟩ := M.out.2.1.2 cc (List.mem_of_getElem? hcc)
              have hnu64 : nu ≤ 64 := by rw [hnu]; exact hc64
              obtain ⟨ub, uo, rfl, hul, hucc⟩ := huc hcn
              have howni : own i = oT wl cc := by rw [M.out.2.2.2.2.2.2.1]; unfold ownF; rw [hcc]; rfl
              have B1 := Lib.hid (And.intro hq (And.intro hiI (And.intro hbel (And.intro hok (And.intro hi (And.intro hcc (And.intro hul (And.intro hucc (And.intro hnu (And.intro howni (And.intro hcu hgl)))))))))))
              clear hq hiI hbel hok hi hcc hcells hcu hu huc hul hucc hnu howni hgl hcn hc64 hcx c0X lcX
              rename World => wo
              go_wp2_with (fail)
              go_loopg [15] nu (fun q tv wr => ∃ t : Nat, q = nu - t ∧ t ≤ nu ∧ tv = .int .i64 (t : Int) ∧ Below W2.heap.size W2 wr ∧ HwOk wr gO gB np (upd (ownT np own j) i (oT wl (cc.take t))) (fun k => (hvS np e own j k).1))
              case atStart =>
                refine ⟨0, rfl, Nat.zero_le _, rfl, B1.out.2.2.1, B1.out.2.2.2.1.congr (fun k _ => ?_) (fun _ _ => rfl)⟩
                by_cases hk : k = i
                · subst hk
                  rw [upd_same, ownT_low (by have := B1.out.2.2.2.2.1; omega)]; rfl
                · rw [upd_other _ _ hk]
              case round =>
                obtain ⟨t, hq, ht, rfl, hbel, hok⟩ := hrel
                have cu := (hbel.cell (p := ⟨g, i, none⟩) B1.out.2.2.2.2.2.2.2.2.2.2.2).trans B1.out.2.2.2.2.2.2.2.2.2.2.1
                have gl := Nat.lt_of_lt_of_le B1.out.2.2.2.2.2.2.2.2.2.2.2 hbel.size
                by_cases htn : t < nu
                · have ht' : (t : Int) < (nu : Int) := by omega
                  obtain ⟨x, hx⟩ : ∃ x, cc[t]? = some x := ⟨_, List.getElem?_eq_getElem (by rw [← B1.out.2.2.2.2.2.2.2.2.1]; exact htn)⟩
                  have cx := (hbel.cell (p := ⟨ub, uo + t, none⟩) B1.out.2.2.2.2.2.2.1).trans (B1.out.2.2.2.2.2.2.2.1 t x hx)
                  have ul := Nat.lt_of_lt_of_le B1.out.2.2.2.2.2.2.1 hbel.size
                  have hxm := M.out.2.2.2.2.2.1 i cc x B1.out.2.2.2.2.2.1 (List.mem_of_getElem? hx)
                  have hst := oT_step (wl := wl) hx
                  obtain ⟨y, hy1, hy2, hy3⟩ := wN_at (wl := wl) (k := x) (by rw [M.out.2.2.2.2.2.2.2.2.2.1]; exact hxm) M.out.2.2.2.2.2.2.2.2.2.2.1
                  obtain ⟨A', c', hsl, hwc⟩ := (N.out.2.2.2.1.below hbel).ex
                  obtain ⟨wg, wo', hwa, hwl, hwcc⟩ := hwc (fun e => by have := intL_at hy1; rw [e] at this; cases this)
                  have hWA : WA = some ⟨wg, wo', none⟩ := by injection hsl with h1; rw [h1, hwa]
                  have cw := hwcc x _ (intL_at hy1)
                  rw [hy2] at cw
                  have ci := hok.own.cell' (vecC_at (fun k' => .int .i64 ((upd (ownT np own j) i (oT wl (cc.take t)) k' : Nat) : Int)) hin)
                  rw [upd_same] at ci
                  have fi := hok.own.frozen i
                  have li := hok.own.lt
                  have hb1 : oT wl (cc.take t) ≤ 1000 := oT_le (fun z _ => wN_le M.out.2.2.2.2.2.2.2.2.2.2.1 z) 0 (by decide)
                  obtain ⟨a, ha⟩ : ∃ a, a = oT wl (cc.take t) := ⟨_, rfl⟩
                  obtain ⟨b, hb⟩ : ∃ b, b = wN wl x := ⟨_, rfl⟩
                  rw [← ha] at ci hb1 hst
                  rw [← hb] at cw hy3 hst
                  subst hWA
                  have hxm' : (x : Int) < (m : Int) := by omega
                  have ha3 : (a : Int) ≤ 1000 := by omega
                  have hb3 : (b : Int) ≤ 1000 := by omega
                  have F := Lib.hid (And.intro hst (And.intro hbel (And.intro hok (And.intro hq (And.intro ha hwl)))))
                  clear hst hbel hok hq hx hxm hy1 hy2 hy3 hsl hwc hwa hwcc ha hb hb1
                  go_wp2_with (fail)
                  go_region
                  go_wp2_with (fail)
                  go_roundg (nu - (t + 1))
                  case measure => have := F.out.2.2.2.1; omega
                  case rel =>
                    have ho : max (a : Int) (b : Int) = ((max a b : Nat) : Int) := by omega
                    rw [ho]
                    have hbb := gr_set F.out.2.1 (p := ⟨gO, i, none⟩) hO (.int .i64 ((max a b : Nat) : Int))
                    refine ⟨t + 1, rfl, htn, by simp, ⟨hbb.os, hbb.tape, hbb.output, hbb.size, hbb.block⟩, ?_⟩
                    rw [F.out.1]
                    have h9 := F.out.2.2.1.setOwn hin (max a b)
                    exact (h9.congr (fun k _ => (upd_upd _ _ _ _ _).symm) (fun _ _ => rfl)).below (gr_drew (Below.refl _ _))
                · have et : t = nu := by omega
                  subst t
                  have hok2 : HwOk wr gO gB np (ownT np own (j + 1)) (fun k => (hvS np e own j k).1) := by
                    have h := hok
                    rw [B1.out.2.2.2.2.2.2.2.2.1, List.take_length, ← B1.out.2.2.2.2.2.2.2.2.2.1] at h
                    have h10 := B1.out.2.2.2.2.1
                    exact h.congr (fun k _ => by rw [ownT_next hjn k, h10]) (fun _ _ => rfl)
                  have ci := hok2.own.cell' (vecC_at (fun k' => .int .i64 ((ownT np own (j + 1) k' : Nat) : Int)) hin)
                  have hown : ownT np own (j + 1) i = own i := by unfold ownT; rw [if_pos (by have := B1.out.2.2.2.2.1; omega)]
                  rw [hown] at ci
                  have lO := hok2.own.lt
                  have cbi := hok2.best.cell' (vecC_at (fun k' => .int .i64 (((hvS np e own j k').1 : Nat) : Int)) hin)
                  have fbi := hok2.best.frozen i
                  have lbi := hok2.best.lt
                  have hob := M.out.2.2.2.2.2.2.2.1 i
                  obtain ⟨ow, how⟩ : ∃ x, x = own i := ⟨_, rfl⟩
                  rw [← how] at ci hob
                  have how1 : (ow : Int) ≤ 1000 := by omega
                  have hput := hok2.setBest hin ow
                  have hbP := gr_set hbel (p := ⟨gB, i, none⟩) hB (.int .i64 (ow : Int))
                  have F := Lib.hid (And.intro hput (And.intro hbP how))
                  clear hbel hok hq htn hok2 hput hbP hob how hown
                  rename World => wm
                  go_wp2_with (fail)
                  clear ci lO cbi fbi lbi cu gl
                  go_loopg [16] nL (fun q kv wr => ∃ k : Nat, q = nL - k ∧ k ≤ nL ∧ kv = .int .i64 (k : Int) ∧ Below W2.heap.size W2 wr ∧ HwOk wr gO gB np (ownT np own (j + 1)) (upd (fun k => (hvS np e own j k).1) i (mxF (fun k => own i + (hvS np e own j k).1) i (own i) (L.take k))))
                  case atStart =>
                    refine ⟨0, rfl, Nat.zero_le _, rfl, F.out.2.1, ?_⟩
                    have e := F.out.2.2
                    subst e
                    exact F.out.1
                  case round =>
                    obtain ⟨k, hq, hk, rfl, hbel, hok⟩ := hrel
                    have kC := N.out.2.2.1.call hbel
                    have q1 := kC.cell' (i := 1) rfl
                    have lq := kC.lt
                    have hnl : nL ≤ 4096 := by have := D.out.2.2.2.2.2.2; have := M.out.2.2.2.2.1; omega
                    have wk : IntKind.i64.wrap ((k : Int) + 1) = ((k + 1 : Nat) : Int) := (IntWalk.i64_in _ (by omega)).trans (by simp)
                    by_cases hkn : k < nL
                    · have hk' : (k : Int) < (nL : Int) := by omega
                      obtain ⟨⟨a, b⟩, hx⟩ : ∃ x, L[k]? = some x := ⟨_, List.getElem?_eq_getElem (by rw [← D.out.2.2.2.2.2.2]; exact hkn)⟩
                      have hxm := List.mem_of_getElem? hx
                      rw [M.out.2.2.2.1] at hxm
                      obtain ⟨h1, h2, h3, h4⟩ := mem_condTo.1 hxm
                      have hst := mxF_take (h := fun k => own i + (hvS np e own j k).1) (i := i) (a0 := own i) hx
                      have hEc : Cells wr eA 2 (L.map conE).length (edAt (L.map conE)) := by
                        rw [List.length_map, ← D.out.2.2.2.2.2.2]; exact N.out.2.1.below hbel
                      obtain ⟨ab, ao, rfl, hab, ca, cb⟩ := cells_edg hEc (k := k) (p := conE (a, b)) (by rw [List.getElem?_map, hx]; rfl)
                      replace ca : wr.cell? ⟨ab, ao + k * 2, none⟩ = some (.int .i64 (a : Int)) := ca
                      replace cb : wr.cell? ⟨ab, ao + k * 2 + 1, none⟩ = some (.int .i64 (b : Int)) := cb
                      by_cases hai : a = i
                      · have hae : ((a : Int) == (i : Int)) = true := by simp; omega
                        have hbi : b ≠ i := by simp only at h3; omega
                        have hbn : b < np := h2
                        rw [if_pos hai] at hst
                        have co := hok.own.cell' (vecC_at (fun k' => .int .i64 ((ownT np own (j + 1) k' : Nat) : Int)) hin)
                        have hown : ownT np own (j + 1) i = own i := by unfold ownT; rw [if_pos (by have := B1.out.2.2.2.2.1; omega)]
                        rw [hown, ← F.out.2.2] at co
                        have lO := hok.own.lt
                        have ci := hok.best.cell' (vecC_at (fun k' => .int .i64 ((upd (fun k => (hvS np e own j k).1) i (mxF (fun k => own i + (hvS np e own j k).1) i (own i) (L.take k)) k' : Nat) : Int)) hin)
                        have ck := hok.best.cell' (vecC_at (fun k' => .int .i64 ((upd (fun k => (hvS np e own j k).1) i (mxF (fun k => own i + (hvS np e own j k).1) i (own i) (L.take k)) k' : Nat) : Int)) hbn)
                        rw [upd_same] at ci
                        rw [upd_other _ _ hbi] at ck
                        have hoi := M.out.2.2.2.2.2.2.2.1
                        have hb1 : mxF (fun k => own i + (hvS np e own j k).1) i (own i) (L.take k) ≤ 65000 := mxF_le (by have := hoi i; omega) (fun x _ => by have := hoi i; have := (hvS_bound (m := np) (e := e) hoi j x.2).1; omega)
                        have hb2 : (hvS np e own j b).1 ≤ 64000 := by have := (hvS_bound (m := np) (e := e) hoi j b).1; omega
                        have fi := hok.best.frozen i
                        have ll := hok.best.lt
                        obtain ⟨x, hxx⟩ : ∃ x, x = mxF (fun k => own i + (hvS np e own j k).1) i (own i) (L.take k) := ⟨_, rfl⟩
                        obtain ⟨y, hyy⟩ : ∃ y, y = (hvS np e own j b).1 := ⟨_, rfl⟩
                        simp only at hst
                        rw [← hxx] at ci hb1 hst
                        rw [← hyy] at hst hb2
                        replace ck : wr.cell? ⟨gB, b, none⟩ = some (.int .i64 (y : Int)) := by rw [hyy]; exact ck
                        rw [← F.out.2.2] at hst
                        have hx64 : (x : Int) ≤ 65000 := by omega
                        have hy64 : (y : Int) ≤ 64000 := by omega
                        have hb' : (b : Int) < (np : Int) := by omega
                        have ws : IntKind.i64.wrap ((ow : Int) + (y : Int)) = (ow : Int) + (y : Int) := IntWalk.i64_in _ (by omega)
                        have G := Lib.hid (And.intro hst (And.intro hbel (And.intro hok (And.intro hq (And.intro hkn hxx)))))
                        clear hst hbel hok hq kC hx hxm h1 h2 h3 h4 hEc hai hbi hxx hyy hb1 hb2 hown hoi
                        go_wp2_with (fail)
                        go_region
                        go_wp2_with (fail)
                        go_roundg (nL - (k + 1))
                        case measure => have := G.out.2.2.2.1; omega
                        case rel =>
                          have ho : max (x : Int) ((ow : Int) + (y : Int)) = ((max x (ow + y) : Nat) : Int) := by omega
                          rw [ho]
                          have hb := gr_set G.out.2.1 (p := ⟨gB, i, none⟩) hB (.int .i64 ((max x (ow + y) : Nat) : Int))
                          refine ⟨k + 1, rfl, hkn, by simp, ⟨hb.os, hb.tape, hb.output, hb.size, hb.block⟩, ?_⟩
                          have h9 := G.out.2.2.1.setBest hin (max x (ow + y))
                          refine (h9.congr (fun _ _ => rfl) (fun k' _ => ?_)).below (gr_drew (Below.refl _ _))
                          rw [F.out.2.2] at G
                          rw [G.out.1, F.out.2.2]
                          exact (upd_upd _ _ _ _ _).symm
                      · have hae : ((a : Int) == (i : Int)) = false := by simp; omega
                        rw [if_neg hai] at hst
                        have G := Lib.hid (And.intro hst (And.intro hbel (And.intro hok hq)))
                        clear hst hbel hok hq kC hx hxm h1 h2 h3 h4 hEc hai
                        go_wp2_with (fail)
                        go_roundg (nL - (k + 1))
                        case measure => have := G.out.2.2.2; omega
                        case rel =>
                          refine ⟨k + 1, rfl, hkn, by simp, G.out.2.1, ?_⟩
                          rw [G.out.1]
                          exact G.out.2.2.1
                    · have hkl : k = nL := by omega
                      subst k
                      have G := Lib.hid (And.intro hbel hok)
                      clear hbel hok hq kC
                      go_wp2_with (fail)
                      go_roundg (np - (j + 1))
                      case measure => have := B1.out.1; omega
                      case rel =>
                        refine ⟨j + 1, rfl, hjn, by have := B1.out.2.1; simp; omega, G.out.1, G.out.2.congr (fun _ _ => rfl) (fun k' _ => ?_)⟩
                        have h10 := B1.out.2.2.2.2.1
                        rw [hvS_upd, ← h10, D.out.2.2.2.2.2.2, List.take_length, M.out.2.2.2.1, mxF_all _ _ hin (fun k h1 h2 => M.out.2.2.1 i k h1 h2), show np - (i + 1) = j by omega, hvI_fst]
            · have ej : j = np := by omega
              subst j
              have hneg : ((np : Int) - 1 - (np : Int)) = -1 := by omega
              rw [hneg]
              rename World => W3
              have hok2 : HwOk W3 gO gB np own (bstF np e own) := hok.congr (fun k hk => by unfold ownT; rw [if_pos (by omega)]) (fun k _ => rfl)
              have B1 := Lib.hid (And.intro hbel hok2)
              clear hbel hok hok2 hq hjn c0X lcX
              go_wp2_with (fail)
              go_loopg [18, 17] (np - 1) (fun q iv av wr => ∃ i a : Nat, q = np - i ∧ 0 < i ∧ i ≤ np ∧ iv = .int .i64 (i : Int) ∧ av = .int .i64 (a : Int) ∧ Below W3.heap.size W3 wr ∧ argM (bstF np e own) i = some a ∧ a < i)
              case atStart => exact ⟨1, 0, rfl, by decide, hpos, rfl, rfl, Below.refl _ _, rfl, by decide⟩
              case round =>
                obtain ⟨i, a, hq, hi0, hi, rfl, rfl, hbel, harg, hai⟩ := hrel
                have hbw := gr_call B1.out.1 hbel
                have kC := N.out.2.2.1.call hbw
                have c0 := kC.cell' (i := 0) rfl
                have c1 := kC.cell' (i := 1) rfl
                have lc := kC.lt
                have hokw := B1.out.2.below hbel
                have lB := hokw.best.lt
                have han : a < np := by omega
                have han' : (a : Int) < (np : Int) := by omega
                have ca := hokw.best.cell' (vecC_at (fun k' => .int .i64 ((bstF np e own k' : Nat) : Int)) han)
                by_cases hin : i < np
                · have hi' : (i : Int) < (np : Int) := by omega
                  have ci := hokw.best.cell' (vecC_at (fun k' => .int .i64 ((bstF np e own k' : Nat) : Int)) hin)
                  have hst := argM_next harg
                  obtain ⟨x, hx⟩ : ∃ x, x = bstF np e own i := ⟨_, rfl⟩
                  obtain ⟨y, hy⟩ : ∃ y, y = bstF np e own a := ⟨_, rfl⟩
                  rw [← hx] at ci hst
                  rw [← hy] at ca hst
                  have wk : IntKind.i64.wrap ((i : Int) + 1) = ((i + 1 : Nat) : Int) := (IntWalk.i64_in _ (by omega)).trans (by simp)
                  by_cases hyx : y < x
                  · have hyx' : (y : Int) < (x : Int) := by omega
                    have hyx2 : decide ((y : Int) < (x : Int)) = true := decide_eq_true hyx'
                    rw [if_pos hyx] at hst
                    have G := Lib.hid (And.intro hq (And.intro hbel hst))
                    clear hq hbel hst harg hbw kC hokw hx hy hyx
                    go_wp2_with (fail)
                    go_quiet (fail)
                    go_wp2_with (fail)
                    go_roundg (np - (i + 1))
                    case measure => have := G.out.1; omega
                    case rel => exact ⟨i + 1, i, rfl, by omega, hin, by simp, rfl, below_drewN G.out.2.1 _, G.out.2.2, by omega⟩
                  · have hyx' : ¬ (y : Int) < (x : Int) := by omega
                    have hyx2 : decide ((y : Int) < (x : Int)) = false := decide_eq_false hyx'
                    rw [if_neg hyx] at hst
                    have G := Lib.hid (And.intro hq (And.intro hbel hst))
                    clear hq hbel hst harg hbw kC hokw hx hy hyx
                    go_wp2_with (fail)
                    go_quiet (fail)
                    go_wp2_with (fail)
                    go_roundg (np - (i + 1))
                    case measure => have := G.out.1; omega
                    case rel => exact ⟨i + 1, a, rfl, by omega, hin, by simp, rfl, below_drewN G.out.2.1 _, G.out.2.2, by omega⟩
                · have ei : i = np := by omega
                  subst i
                  have hRV : RV = hvF np e own a := by rw [M.out.2.2.2.2.2.2.2.2.1, harg]
                  have hch := fun W h1 h2 h3 => chain_ref np hnp64 e own M.out.2.2.2.2.2.2.2.1 M.out.2.2.1 a han gO gB eA ec nL W (by rw [← M.out.2.2.2.1]; exact D.out.2.2.2.2.2.2) h1 h2 h3
                  rename World => W4
                  have hch2 := hch W4.drew (hokw.own.drew) (hokw.best.drew) (by
                    rw [← M.out.2.2.2.1, List.length_map, ← D.out.2.2.2.2.2.2]
                    exact N.out.2.1.below (gr_drew hbw))
                  have hRV1 : (RV.1 : Int) = ((bstF np e own a : Nat) : Int) := by rw [hRV]; rfl
                  obtain ⟨CH, hCH⟩ : ∃ CH, CH = (hvF np e own a).2 := ⟨_, rfl⟩
                  have hRV2 : RV.2 = CH := by rw [hRV, hCH]
                  rw [← hCH] at hch2
                  rw [← hRV1] at ca
                  have G := Lib.hid (And.intro hbw (And.intro hRV2 hRV))
                  clear hch hRV hRV1 hRV2 hCH hbel hbw kC hokw hq harg hin
                  go_wp2_with (fail)
                  go_region_held_law (fun w' => w'.cell? ⟨gB, a, none⟩ = some (.int .i64 (RV.1 : Int)) ∧ w'.cell? ⟨W1.heap.size, 0, none⟩ = some (.int .i64 (np : Int)) ∧ w'.cell? ⟨W1.heap.size, 1, none⟩ = some (.slice eA nL ec))
                    (first
                      | ((try simp only [World.cell?_drew]); (refine ⟨?_, ?_, ?_⟩ <;> assumption))
                      | exact ⟨(h2.cell (p := ⟨gB, a, none⟩) lB).trans ca, (h2.cell (p := ⟨W1.heap.size, 0, none⟩) lc).trans c0, (h2.cell (p := ⟨W1.heap.size, 1, none⟩) lc).trans c1⟩)
                    ((go_at_call 51; refine hch2.mono ?_; rintro e w2 ⟨v, rfl, hv, h2⟩))
                  all_goals (
                    go_wp2_with (fail)
                    go_ret3
                    first
                      | exact ⟨_, rfl, by rw [G.out.2.1]; exact hv, gr_call N.out.1 (gr_call G.out.1 (gr_call (gr_drew (Below.refl _ _)) h2))⟩
                      | exact ⟨_, rfl, by rw [G.out.2.1]; exact hv.below (gr_drew (Below.refl _ _)), gr_call N.out.1 (gr_call G.out.1 (gr_call (gr_drew (Below.refl _ _)) (gr_drew h2)))⟩
                      | exact ⟨_, rfl, by rw [G.out.2.1]; exact hv.below (below_drewN (Below.refl _ _) _), gr_call N.out.1 (gr_call G.out.1 (gr_call (gr_drew (Below.refl _ _)) (below_drewN h2 _)))⟩)
        · obtain ⟨X, hX⟩ : ∃ X, (((W2.alloc (.cells (vecC np fun x => .int .i64 0) 3)).alloc (.cells (vecC np fun x => .int .i64 0) 3)).drew) = X := ⟨_, rfl⟩
          have q0 : Blk X W2.heap.size 3 (numC np fun _ => 0) := by rw [← hX]; exact ((Blk.new W2 3 (numC np fun _ => 0)).alloc _).drew
          have q1 : Blk X (W2.heap.size + 1) 3 (numC np fun _ => 0) := by rw [← hX]; exact Blk.drew (blk_at (by simp))
          have bX : Below W2.heap.size W2 X := by rw [← hX]; exact gr_drew (gr_alloc (gr_alloc (Below.refl _ _) _) _)
          rw [hX]
          clear hX c0A lcA hmk
          obtain ⟨gO, hgO⟩ : ∃ g, g = W2.heap.size + 1 := ⟨_, rfl⟩
          obtain ⟨gB, hgB⟩ : ∃ g, g = W2.heap.size := ⟨_, rfl⟩
          have hok : HwOk X gO gB np (fun _ => 0) (fun _ => 0) := by rw [hgO, hgB]; exact ⟨q1, q0, by omega⟩
          have hO : W2.heap.size ≤ gO := by omega
          have hB : W2.heap.size ≤ gB := by omega
          rw [← hgO, ← hgB]
          clear q0 q1
          have P := Lib.hid (And.intro bX hok)
          have w1 : IntKind.i64.wrap ((np : Int) - 1) = (np : Int) - 1 := IntWalk.i64_in _ (by omega)
          have c0X := (N.out.2.2.1.call bX).cell' (i := 0) rfl
          have lcX := (N.out.2.2.1.call bX).lt
          clear bX hok hgO hgB c0 lc
          go_wp2_with (fail)
          go_loopg [14] np (fun q iv wr => ∃ j : Nat, q = np - j ∧ j ≤ np ∧ iv = .int .i64 ((np : Int) - 1 - (j : Int)) ∧ Below W2.heap.size W2 wr ∧ HwOk wr gO gB np (ownT np own j) (fun k => (hvS np e own j k).1))
          case atStart =>
            exact ⟨0, rfl, Nat.zero_le _, by simp, P.out.1, P.out.2.congr (fun k hk => ownT_low (by omega)) (fun k _ => rfl)⟩
          case round =>
            obtain ⟨j, hq, hj, rfl, hbel, hok⟩ := hrel
            by_cases hjn : j < np
            · obtain ⟨i, hi⟩ : ∃ i : Nat, i = np - 1 - j := ⟨_, rfl⟩
              have hin : i < np := by omega
              have hiI : (np : Int) - 1 - (j : Int) = (i : Int) := by omega
              rw [hiI]
              have hi0 : (0 : Int) ≤ (i : Int) := by omega
              have hi' : (i : Int) < (np : Int) := by omega
              have wi : IntKind.i64.wrap ((i : Int) - 1) = (i : Int) - 1 := IntWalk.i64_in _ (by omega)
              obtain ⟨cc, hcc⟩ : ∃ x, ls[i]? = some x := ⟨_, List.getElem?_eq_getElem (by rw [← M.out.1]; exact hin)⟩
              obtain ⟨g, hg, hgl, hcells⟩ := N.out.2.2.2.2 (fun e => by rw [e] at hcc; simp at hcc)
              obtain ⟨u, hcu, hu⟩ := hcells i cc hcc
              obtain ⟨ua, uc, hue, huc⟩ := hu.ex
              obtain ⟨nu, hnu⟩ : ∃ x, x = cc.length := ⟨_, rfl⟩
              rw [← hnu] at hue
              subst hue hg
              obtain ⟨hcn, hc64, hcx⟩ := M.out.2.1.2 cc (List.mem_of_getElem? hcc)
              have hnu64 : nu ≤ 64 := by rw [hnu]; exact hc64
              obtain ⟨ub, uo, rfl, hul, hucc⟩ := huc hcn
              have howni : own i = oT wl cc := by rw [M.out.2.2.2.2.2.2.1]; unfold ownF; rw [hcc]; rfl
              have B1 := Lib.hid (And.intro hq (And.intro hiI (And.intro hbel (And.intro hok (And.intro hi (And.intro hcc (And.intro hul (And.intro hucc (And.intro hnu (And.intro howni (And.intro hcu hgl)))))))))))
              clear hq hiI hbel hok hi hcc hcells hcu hu huc hul hucc hnu howni hgl hcn hc64 hcx c0X lcX
              rename World => wo
              go_wp2_with (fail)
              go_loopg [15] nu (fun q tv wr => ∃ t : Nat, q = nu - t ∧ t ≤ nu ∧ tv = .int .i64 (t : Int) ∧ Below W2.heap.size W2 wr ∧ HwOk wr gO gB np (upd (ownT np own j) i (oT wl (cc.take t))) (fun k => (hvS np e own j k).1))
              case atStart =>
                refine ⟨0, rfl, Nat.zero_le _, rfl, B1.out.2.2.1, B1.out.2.2.2.1.congr (fun k _ => ?_) (fun _ _ => rfl)⟩
                by_cases hk : k = i
                · subst hk
                  rw [upd_same, ownT_low (by have := B1.out.2.2.2.2.1; omega)]; rfl
                · rw [upd_other _ _ hk]
              case round =>
                obtain ⟨t, hq, ht, rfl, hbel, hok⟩ := hrel
                have cu := (hbel.cell (p := ⟨g, i, none⟩) B1.out.2.2.2.2.2.2.2.2.2.2.2).trans B1.out.2.2.2.2.2.2.2.2.2.2.1
                have gl := Nat.lt_of_lt_of_le B1.out.2.2.2.2.2.2.2.2.2.2.2 hbel.size
                by_cases htn : t < nu
                · have ht' : (t : Int) < (nu : Int) := by omega
                  obtain ⟨x, hx⟩ : ∃ x, cc[t]? = some x := ⟨_, List.getElem?_eq_getElem (by rw [← B1.out.2.2.2.2.2.2.2.2.1]; exact htn)⟩
                  have cx := (hbel.cell (p := ⟨ub, uo + t, none⟩) B1.out.2.2.2.2.2.2.1).trans (B1.out.2.2.2.2.2.2.2.1 t x hx)
                  have ul := Nat.lt_of_lt_of_le B1.out.2.2.2.2.2.2.1 hbel.size
                  have hxm := M.out.2.2.2.2.2.1 i cc x B1.out.2.2.2.2.2.1 (List.mem_of_getElem? hx)
                  have hst := oT_step (wl := wl) hx
                  obtain ⟨y, hy1, hy2, hy3⟩ := wN_at (wl := wl) (k := x) (by rw [M.out.2.2.2.2.2.2.2.2.2.1]; exact hxm) M.out.2.2.2.2.2.2.2.2.2.2.1
                  obtain ⟨A', c', hsl, hwc⟩ := (N.out.2.2.2.1.below hbel).ex
                  obtain ⟨wg, wo', hwa, hwl, hwcc⟩ := hwc (fun e => by have := intL_at hy1; rw [e] at this; cases this)
                  have hWA : WA = some ⟨wg, wo', none⟩ := by injection hsl with h1; rw [h1, hwa]
                  have cw := hwcc x _ (intL_at hy1)
                  rw [hy2] at cw
                  have ci := hok.own.cell' (vecC_at (fun k' => .int .i64 ((upd (ownT np own j) i (oT wl (cc.take t)) k' : Nat) : Int)) hin)
                  rw [upd_same] at ci
                  have fi := hok.own.frozen i
                  have li := hok.own.lt
                  have hb1 : oT wl (cc.take t) ≤ 1000 := oT_le (fun z _ => wN_le M.out.2.2.2.2.2.2.2.2.2.2.1 z) 0 (by decide)
                  obtain ⟨a, ha⟩ : ∃ a, a = oT wl (cc.take t) := ⟨_, rfl⟩
                  obtain ⟨b, hb⟩ : ∃ b, b = wN wl x := ⟨_, rfl⟩
                  rw [← ha] at ci hb1 hst
                  rw [← hb] at cw hy3 hst
                  subst hWA
                  have hxm' : (x : Int) < (m : Int) := by omega
                  have ha3 : (a : Int) ≤ 1000 := by omega
                  have hb3 : (b : Int) ≤ 1000 := by omega
                  have F := Lib.hid (And.intro hst (And.intro hbel (And.intro hok (And.intro hq (And.intro ha hwl)))))
                  clear hst hbel hok hq hx hxm hy1 hy2 hy3 hsl hwc hwa hwcc ha hb hb1
                  go_wp2_with (fail)
                  go_region
                  go_wp2_with (fail)
                  go_roundg (nu - (t + 1))
                  case measure => have := F.out.2.2.2.1; omega
                  case rel =>
                    have ho : max (a : Int) (b : Int) = ((max a b : Nat) : Int) := by omega
                    rw [ho]
                    have hbb := gr_set F.out.2.1 (p := ⟨gO, i, none⟩) hO (.int .i64 ((max a b : Nat) : Int))
                    refine ⟨t + 1, rfl, htn, by simp, ⟨hbb.os, hbb.tape, hbb.output, hbb.size, hbb.block⟩, ?_⟩
                    rw [F.out.1]
                    have h9 := F.out.2.2.1.setOwn hin (max a b)
                    exact (h9.congr (fun k _ => (upd_upd _ _ _ _ _).symm) (fun _ _ => rfl)).below (gr_drew (Below.refl _ _))
                · have et : t = nu := by omega
                  subst t
                  have hok2 : HwOk wr gO gB np (ownT np own (j + 1)) (fun k => (hvS np e own j k).1) := by
                    have h := hok
                    rw [B1.out.2.2.2.2.2.2.2.2.1, List.take_length, ← B1.out.2.2.2.2.2.2.2.2.2.1] at h
                    have h10 := B1.out.2.2.2.2.1
                    exact h.congr (fun k _ => by rw [ownT_next hjn k, h10]) (fun _ _ => rfl)
                  have ci := hok2.own.cell' (vecC_at (fun k' => .int .i64 ((ownT np own (j + 1) k' : Nat) : Int)) hin)
                  have hown : ownT np own (j + 1) i = own i := by unfold ownT; rw [if_pos (by have := B1.out.2.2.2.2.1; omega)]
                  rw [hown] at ci
                  have lO := hok2.own.lt
                  have cbi := hok2.best.cell' (vecC_at (fun k' => .int .i64 (((hvS np e own j k').1 : Nat) : Int)) hin)
                  have fbi := hok2.best.frozen i
                  have lbi := hok2.best.lt
                  have hob := M.out.2.2.2.2.2.2.2.1 i
                  obtain ⟨ow, how⟩ : ∃ x, x = own i := ⟨_, rfl⟩
                  rw [← how] at ci hob
                  have how1 : (ow : Int) ≤ 1000 := by omega
                  have hput := hok2.setBest hin ow
                  have hbP := gr_set hbel (p := ⟨gB, i, none⟩) hB (.int .i64 (ow : Int))
                  have F := Lib.hid (And.intro hput (And.intro hbP how))
                  clear hbel hok hq htn hok2 hput hbP hob how hown
                  rename World => wm
                  go_wp2_with (fail)
                  clear ci lO cbi fbi lbi cu gl
                  go_loopg [16] nL (fun q kv wr => ∃ k : Nat, q = nL - k ∧ k ≤ nL ∧ kv = .int .i64 (k : Int) ∧ Below W2.heap.size W2 wr ∧ HwOk wr gO gB np (ownT np own (j + 1)) (upd (fun k => (hvS np e own j k).1) i (mxF (fun k => own i + (hvS np e own j k).1) i (own i) (L.take k))))
                  case atStart =>
                    refine ⟨0, rfl, Nat.zero_le _, rfl, F.out.2.1, ?_⟩
                    have e := F.out.2.2
                    subst e
                    exact F.out.1
                  case round =>
                    obtain ⟨k, hq, hk, rfl, hbel, hok⟩ := hrel
                    have kC := N.out.2.2.1.call hbel
                    have q1 := kC.cell' (i := 1) rfl
                    have lq := kC.lt
                    have hnl : nL ≤ 4096 := by have := D.out.2.2.2.2.2.2; have := M.out.2.2.2.2.1; omega
                    have wk : IntKind.i64.wrap ((k : Int) + 1) = ((k + 1 : Nat) : Int) := (IntWalk.i64_in _ (by omega)).trans (by simp)
                    by_cases hkn : k < nL
                    · have hk' : (k : Int) < (nL : Int) := by omega
                      obtain ⟨⟨a, b⟩, hx⟩ : ∃ x, L[k]? = some x := ⟨_, List.getElem?_eq_getElem (by rw [← D.out.2.2.2.2.2.2]; exact hkn)⟩
                      have hxm := List.mem_of_getElem? hx
                      rw [M.out.2.2.2.1] at hxm
                      obtain ⟨h1, h2, h3, h4⟩ := mem_condTo.1 hxm
                      have hst := mxF_take (h := fun k => own i + (hvS np e own j k).1) (i := i) (a0 := own i) hx
                      have hEc : Cells wr eA 2 (L.map conE).length (edAt (L.map conE)) := by
                        rw [List.length_map, ← D.out.2.2.2.2.2.2]; exact N.out.2.1.below hbel
                      obtain ⟨ab, ao, rfl, hab, ca, cb⟩ := cells_edg hEc (k := k) (p := conE (a, b)) (by rw [List.getElem?_map, hx]; rfl)
                      replace ca : wr.cell? ⟨ab, ao + k * 2, none⟩ = some (.int .i64 (a : Int)) := ca
                      replace cb : wr.cell? ⟨ab, ao + k * 2 + 1, none⟩ = some (.int .i64 (b : Int)) := cb
                      by_cases hai : a = i
                      · have hae : ((a : Int) == (i : Int)) = true := by simp; omega
                        have hbi : b ≠ i := by simp only at h3; omega
                        have hbn : b < np := h2
                        rw [if_pos hai] at hst
                        have co := hok.own.cell' (vecC_at (fun k' => .int .i64 ((ownT np own (j + 1) k' : Nat) : Int)) hin)
                        have hown : ownT np own (j + 1) i = own i := by unfold ownT; rw [if_pos (by have := B1.out.2.2.2.2.1; omega)]
                        rw [hown, ← F.out.2.2] at co
                        have lO := hok.own.lt
                        have ci := hok.best.cell' (vecC_at (fun k' => .int .i64 ((upd (fun k => (hvS np e own j k).1) i (mxF (fun k => own i + (hvS np e own j k).1) i (own i) (L.take k)) k' : Nat) : Int)) hin)
                        have ck := hok.best.cell' (vecC_at (fun k' => .int .i64 ((upd (fun k => (hvS np e own j k).1) i (mxF (fun k => own i + (hvS np e own j k).1) i (own i) (L.take k)) k' : Nat) : Int)) hbn)
                        rw [upd_same] at ci
                        rw [upd_other _ _ hbi] at ck
                        have hoi := M.out.2.2.2.2.2.2.2.1
                        have hb1 : mxF (fun k => own i + (hvS np e own j k).1) i (own i) (L.take k) ≤ 65000 := mxF_le (by have := hoi i; omega) (fun x _ => by have := hoi i; have := (hvS_bound (m := np) (e := e) hoi j x.2).1; omega)
                        have hb2 : (hvS np e own j b).1 ≤ 64000 := by have := (hvS_bound (m := np) (e := e) hoi j b).1; omega
                        have fi := hok.best.frozen i
                        have ll := hok.best.lt
                        obtain ⟨x, hxx⟩ : ∃ x, x = mxF (fun k => own i + (hvS np e own j k).1) i (own i) (L.take k) := ⟨_, rfl⟩
                        obtain ⟨y, hyy⟩ : ∃ y, y = (hvS np e own j b).1 := ⟨_, rfl⟩
                        simp only at hst
                        rw [← hxx] at ci hb1 hst
                        rw [← hyy] at hst hb2
                        replace ck : wr.cell? ⟨gB, b, none⟩ = some (.int .i64 (y : Int)) := by rw [hyy]; exact ck
                        rw [← F.out.2.2] at hst
                        have hx64 : (x : Int) ≤ 65000 := by omega
                        have hy64 : (y : Int) ≤ 64000 := by omega
                        have hb' : (b : Int) < (np : Int) := by omega
                        have ws : IntKind.i64.wrap ((ow : Int) + (y : Int)) = (ow : Int) + (y : Int) := IntWalk.i64_in _ (by omega)
                        have G := Lib.hid (And.intro hst (And.intro hbel (And.intro hok (And.intro hq (And.intro hkn hxx)))))
                        clear hst hbel hok hq kC hx hxm h1 h2 h3 h4 hEc hai hbi hxx hyy hb1 hb2 hown hoi
                        go_wp2_with (fail)
                        go_region
                        go_wp2_with (fail)
                        go_roundg (nL - (k + 1))
                        case measure => have := G.out.2.2.2.1; omega
                        case rel =>
                          have ho : max (x : Int) ((ow : Int) + (y : Int)) = ((max x (ow + y) : Nat) : Int) := by omega
                          rw [ho]
                          have hb := gr_set G.out.2.1 (p := ⟨gB, i, none⟩) hB (.int .i64 ((max x (ow + y) : Nat) : Int))
                          refine ⟨k + 1, rfl, hkn, by simp, ⟨hb.os, hb.tape, hb.output, hb.size, hb.block⟩, ?_⟩
                          have h9 := G.out.2.2.1.setBest hin (max x (ow + y))
                          refine (h9.congr (fun _ _ => rfl) (fun k' _ => ?_)).below (gr_drew (Below.refl _ _))
                          rw [F.out.2.2] at G
                          rw [G.out.1, F.out.2.2]
                          exact (upd_upd _ _ _ _ _).symm
                      · have hae : ((a : Int) == (i : Int)) = false := by simp; omega
                        rw [if_neg hai] at hst
                        have G := Lib.hid (And.intro hst (And.intro hbel (And.intro hok hq)))
                        clear hst hbel hok hq kC hx hxm h1 h2 h3 h4 hEc hai
                        go_wp2_with (fail)
                        go_roundg (nL - (k + 1))
                        case measure => have := G.out.2.2.2; omega
                        case rel =>
                          refine ⟨k + 1, rfl, hkn, by simp, G.out.2.1, ?_⟩
                          rw [G.out.1]
                          exact G.out.2.2.1
                    · have hkl : k = nL := by omega
                      subst k
                      have G := Lib.hid (And.intro hbel hok)
                      clear hbel hok hq kC
                      go_wp2_with (fail)
                      go_roundg (np - (j + 1))
                      case measure => have := B1.out.1; omega
                      case rel =>
                        refine ⟨j + 1, rfl, hjn, by have := B1.out.2.1; simp; omega, G.out.1, G.out.2.congr (fun _ _ => rfl) (fun k' _ => ?_)⟩
                        have h10 := B1.out.2.2.2.2.1
                        rw [hvS_upd, ← h10, D.out.2.2.2.2.2.2, List.take_length, M.out.2.2.2.1, mxF_all _ _ hin (fun k h1 h2 => M.out.2.2.1 i k h1 h2), show np - (i + 1) = j by omega, hvI_fst]
            · have ej : j = np := by omega
              subst j
              have hneg : ((np : Int) - 1 - (np : Int)) = -1 := by omega
              rw [hneg]
              rename World => W3
              have hok2 : HwOk W3 gO gB np own (bstF np e own) := hok.congr (fun k hk => by unfold ownT; rw [if_pos (by omega)]) (fun k _ => rfl)
              have B1 := Lib.hid (And.intro hbel hok2)
              clear hbel hok hok2 hq hjn c0X lcX
              go_wp2_with (fail)
              go_loopg [18, 17] (np - 1) (fun q iv av wr => ∃ i a : Nat, q = np - i ∧ 0 < i ∧ i ≤ np ∧ iv = .int .i64 (i : Int) ∧ av = .int .i64 (a : Int) ∧ Below W3.heap.size W3 wr ∧ argM (bstF np e own) i = some a ∧ a < i)
              case atStart => exact ⟨1, 0, rfl, by decide, hpos, rfl, rfl, Below.refl _ _, rfl, by decide⟩
              case round =>
                obtain ⟨i, a, hq, hi0, hi, rfl, rfl, hbel, harg, hai⟩ := hrel
                have hbw := gr_call B1.out.1 hbel
                have kC := N.out.2.2.1.call hbw
                have c0 := kC.cell' (i := 0) rfl
                have c1 := kC.cell' (i := 1) rfl
                have lc := kC.lt
                have hokw := B1.out.2.below hbel
                have lB := hokw.best.lt
                have han : a < np := by omega
                have han' : (a : Int) < (np : Int) := by omega
                have ca := hokw.best.cell' (vecC_at (fun k' => .int .i64 ((bstF np e own k' : Nat) : Int)) han)
                by_cases hin : i < np
                · have hi' : (i : Int) < (np : Int) := by omega
                  have ci := hokw.best.cell' (vecC_at (fun k' => .int .i64 ((bstF np e own k' : Nat) : Int)) hin)
                  have hst := argM_next harg
                  obtain ⟨x, hx⟩ : ∃ x, x = bstF np e own i := ⟨_, rfl⟩
                  obtain ⟨y, hy⟩ : ∃ y, y = bstF np e own a := ⟨_, rfl⟩
                  rw [← hx] at ci hst
                  rw [← hy] at ca hst
                  have wk : IntKind.i64.wrap ((i : Int) + 1) = ((i + 1 : Nat) : Int) := (IntWalk.i64_in _ (by omega)).trans (by simp)
                  by_cases hyx : y < x
                  · have hyx' : (y : Int) < (x : Int) := by omega
                    have hyx2 : decide ((y : Int) < (x : Int)) = true := decide_eq_true hyx'
                    rw [if_pos hyx] at hst
                    have G := Lib.hid (And.intro hq (And.intro hbel hst))
                    clear hq hbel hst harg hbw kC hokw hx hy hyx
                    go_wp2_with (fail)
                    go_quiet (fail)
                    go_wp2_with (fail)
                    go_roundg (np - (i + 1))
                    case measure => have := G.out.1; omega
                    case rel => exact ⟨i + 1, i, rfl, by omega, hin, by simp, rfl, below_drewN G.out.2.1 _, G.out.2.2, by omega⟩
                  · have hyx' : ¬ (y : Int) < (x : Int) := by omega
                    have hyx2 : decide ((y : Int) < (x : Int)) = false := decide_eq_false hyx'
                    rw [if_neg hyx] at hst
                    have G := Lib.hid (And.intro hq (And.intro hbel hst))
                    clear hq hbel hst harg hbw kC hokw hx hy hyx
                    go_wp2_with (fail)
                    go_quiet (fail)
                    go_wp2_with (fail)
                    go_roundg (np - (i + 1))
                    case measure => have := G.out.1; omega
                    case rel => exact ⟨i + 1, a, rfl, by omega, hin, by simp, rfl, below_drewN G.out.2.1 _, G.out.2.2, by omega⟩
                · have ei : i = np := by omega
                  subst i
                  have hRV : RV = hvF np e own a := by rw [M.out.2.2.2.2.2.2.2.2.1, harg]
                  have hch := fun W h1 h2 h3 => chain_ref np hnp64 e own M.out.2.2.2.2.2.2.2.1 M.out.2.2.1 a han gO gB eA ec nL W (by rw [← M.out.2.2.2.1]; exact D.out.2.2.2.2.2.2) h1 h2 h3
                  rename World => W4
                  have hch2 := hch W4.drew (hokw.own.drew) (hokw.best.drew) (by
                    rw [← M.out.2.2.2.1, List.length_map, ← D.out.2.2.2.2.2.2]
                    exact N.out.2.1.below (gr_drew hbw))
                  have hRV1 : (RV.1 : Int) = ((bstF np e own a : Nat) : Int) := by rw [hRV]; rfl
                  obtain ⟨CH, hCH⟩ : ∃ CH, CH = (hvF np e own a).2 := ⟨_, rfl⟩
                  have hRV2 : RV.2 = CH := by rw [hRV, hCH]
                  rw [← hCH] at hch2
                  rw [← hRV1] at ca
                  have G := Lib.hid (And.intro hbw (And.intro hRV2 hRV))
                  clear hch hRV hRV1 hRV2 hCH hbel hbw kC hokw hq harg hin
                  go_wp2_with (fail)
                  go_region_held_law (fun w' => w'.cell? ⟨gB, a, none⟩ = some (.int .i64 (RV.1 : Int)) ∧ w'.cell? ⟨W1.heap.size, 0, none⟩ = some (.int .i64 (np : Int)) ∧ w'.cell? ⟨W1.heap.size, 1, none⟩ = some (.slice eA nL ec))
                    (first
                      | ((try simp only [World.cell?_drew]); (refine ⟨?_, ?_, ?_⟩ <;> assumption))
                      | exact ⟨(h2.cell (p := ⟨gB, a, none⟩) lB).trans ca, (h2.cell (p := ⟨W1.heap.size, 0, none⟩) lc).trans c0, (h2.cell (p := ⟨W1.heap.size, 1, none⟩) lc).trans c1⟩)
                    ((go_at_call 51; refine hch2.mono ?_; rintro e w2 ⟨v, rfl, hv, h2⟩))
                  all_goals (
                    go_wp2_with (fail)
                    go_ret3
                    first
                      | exact ⟨_, rfl, by rw [G.out.2.1]; exact hv, gr_call N.out.1 (gr_call G.out.1 (gr_call (gr_drew (Below.refl _ _)) h2))⟩
                      | exact ⟨_, rfl, by rw [G.out.2.1]; exact hv.below (gr_drew (Below.refl _ _)), gr_call N.out.1 (gr_call G.out.1 (gr_call (gr_drew (Below.refl _ _)) (gr_drew h2)))⟩
                      | exact ⟨_, rfl, by rw [G.out.2.1]; exact hv.below (below_drewN (Below.refl _ _) _), gr_call N.out.1 (gr_call G.out.1 (gr_call (gr_drew (Below.refl _ _)) (below_drewN h2 _)))⟩)
end Go.Proofs.Ytjgkiiohbceocaa
