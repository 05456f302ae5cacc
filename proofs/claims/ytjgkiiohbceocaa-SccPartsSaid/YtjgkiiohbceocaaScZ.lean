/-
  The reference's Order and Reach, walked; conditions: at most 1000000 edges.
-/
import Derived.Test.YtjgkiiohbceocaaScY
namespace Go.Proofs.Ytjgkiiohbceocaa
open Go.RowKit
set_option linter.unusedVariables false
set_option linter.unusedSimpArgs false

/-- A loop is found among the components exactly if a node reaches itself. -/
theorem loops_lpT {n : Nat} {R : Nat → Nat → Bool} (ht : Trans' R) : ((partsV n R).map fun c => R (c.headD 0) (c.headD 0)).any id = lpT R n := by
  rw [Bool.eq_iff_iff]
  unfold lpT
  rw [List.any_eq_true, List.any_eq_true]
  constructor
  · rintro ⟨b, hb, h⟩
    obtain ⟨c, hc, rfl⟩ := List.mem_map.1 hb
    obtain ⟨i, hi⟩ := List.mem_iff_getElem?.1 hc
    obtain ⟨r, t, rfl, hr⟩ := partsV_ne ht hi
    exact ⟨r, List.mem_range.2 (partsR_lt ht hr).1, h⟩
  · rintro ⟨i, hi, h⟩
    obtain ⟨r, h1, h2, h3⟩ := root_of ht i
    have hi' := List.mem_range.1 hi
    obtain ⟨k, hk⟩ := List.mem_iff_getElem?.1 ((partsR_mem (n := n) ht).2 ⟨by omega, h2⟩)
    refine ⟨R r r, List.mem_map.2 ⟨mem_ n R r, ?_, ?_⟩, tog_reach ht (tog_symm h3) (tog_symm h3) h⟩
    · unfold partsV
      exact List.mem_map.2 ⟨r, List.mem_of_getElem? hk, rfl⟩
    · obtain ⟨t, e⟩ := mem_head (n := n) (show r < n by omega) h2
      rw [e]; rfl
def anyT (bs : List Bool) (i : Nat) : Bool := (bs.take i).any id
theorem anyT_succ {bs : List Bool} {i : Nat} {b : Bool} (hb : bs[i]? = some b) (h : anyT bs i = false) : anyT bs (i + 1) = b := by
  unfold anyT at h ⊢
  rw [List.take_add_one, hb, List.any_append, h, Bool.false_or]
  simp
theorem anyT_in {bs : List Bool} {i : Nat} (hb : bs[i]? = some true) : bs.any id = true := List.any_eq_true.2 ⟨true, List.mem_of_getElem? hb, rfl⟩
def flatT (ls : List (List Nat)) (i : Nat) : List Nat := (ls.take i).flatten

set_option maxRecDepth 100000 in
set_option maxHeartbeats 4000000 in
theorem order_ref (n : Int) (l : List Edg) (hl : l.length ≤ 1000000) (A : Option Addr) (c : Nat) (w : World) (hA : Cells w A 2 l.length (edAt l)) :
    Calls Try.prog 30 #[.agg #[.int .i64 n, .slice A l.length c]] w fun e w' => ∃ v, e = .returned (.tuple #[v, .int .i64 (eOrder n l)]) ∧ NatsAt w' v (vOrder n l) ∧ Below w.heap.size w w' := by
  have b0 := gr_alloc (Below.refl w.heap.size w) (.cells #[.int .i64 n, .slice A l.length c] 24)
  have k0 := Blk.new w 24 #[.int .i64 n, .slice A l.length c]
  have hA0 := hA.below b0
  have hlo := loops_ref n l hl A c _ hA0
  by_cases he : (chkG n l).1 = 0
  · have hE : eOrder n l = if lpT (rR n l) n.toNat = true then 16 else 0 := by unfold eOrder; rw [if_pos he]
    have hLV : vLoops n l = loopsV n l := by unfold vLoops; rw [if_pos he]
    obtain ⟨m, rfl, hm, hv, hw, ht⟩ := ok_nat he
    have hR : rR (m : Int) l = rea m (relE l) := by unfold rR; rw [Int.toNat_natCast]
    have hP : pV (m : Int) l = partsV m (rea m (relE l)) := by unfold pV; rw [hR, Int.toNat_natCast]
    have hLL : loopsV (m : Int) l = (partsV m (rea m (relE l))).map fun c => rea m (relE l) (c.headD 0) (c.headD 0) := by unfold loopsV; rw [hP, hR]
    have hany := loops_lpT (n := m) ht
    rw [← hLL] at hany
    rw [hR, Int.toNat_natCast, ← hany] at hE
    have hOV : vOrder (m : Int) l = if eOrder (m : Int) l = 0 then (partsV m (rea m (relE l))).flatten else [] := by unfold vOrder; rw [hP]
    rw [he, hLV] at hlo
    have hre := fun W hW => reaches_ref m hm l hl hv A c W hW
    obtain ⟨ln, hln⟩ : ∃ ln, ln = l.length := ⟨_, rfl⟩
    obtain ⟨ct, hct⟩ : ∃ ct, ct = tabC (rea m (relE l)) := ⟨_, rfl⟩
    have hpa := fun ev W => partsR_ref m hm (rea m (relE l)) ht ev W
    rw [← hct] at hre hpa
    rw [← hln] at hlo
    rw [← hln] at hre hA0 b0 k0 ⊢
    have hpw := parts_what ht hm
    obtain ⟨np, hnp⟩ : ∃ np, np = (partsV m (rea m (relE l))).length := ⟨_, rfl⟩
    have hnp64 : np ≤ 64 := by rw [hnp]; exact hpw.1
    have hbl : (loopsV (m : Int) l).length = np := by rw [hLL, List.length_map, hnp]
    have hsum : sumL (partsV m (rea m (relE l))) ≤ 100000 := Nat.le_trans (sumL_le (B := 64) fun q hq => (hpw.2 q hq).2.1) (Nat.le_trans (Nat.mul_le_mul_right 64 hpw.1) (by decide))
    have H := Lib.hid (And.intro b0 (And.intro k0 (And.intro hA0 (And.intro hlo (And.intro hre hpa)))))
    have M := Lib.hid (And.intro hE (And.intro hOV (And.intro hnp (And.intro hpw (And.intro hbl hsum)))))
    clear b0 k0 hA0 hA hlo hre hpa hct hln he hP hR hv hw ht hl hpw hnp hE hLV hLL hany hOV hbl hsum
    go_enter Try.func30, Try.ntmps30
    go_wp2_with (fail)
    refine H.out.2.2.2.1.mono ?_
    rintro e W1 ⟨vl, rfl, hcv, h1⟩
    obtain ⟨bA, bc, rfl, hbc⟩ := hcv.ex
    have kk := H.out.2.1.call h1
    have r0 := kk.cell' (i := 0) rfl
    have r1 := kk.cell' (i := 1) rfl
    have rl := kk.lt
    have hre1 := H.out.2.2.2.2.1 W1.drew (H.out.2.2.1.below (gr_drew h1))
    have D := Lib.hid (And.intro (gr_call H.out.1 h1) hbc)
    clear h1 kk hcv hbc
    go_wp2_with (fail)
    go_region_held_law (fun w' => w'.cell? ⟨w.heap.size, 0, none⟩ = some (.int .i64 (m : Int)) ∧ w'.cell? ⟨w.heap.size, 1, none⟩ = some (.slice A ln c))
      (first
        | ((try simp only [World.cell?_drew]); (refine ⟨?_, ?_⟩ <;> assumption))
        | exact ⟨(h2.cell (p := ⟨w.heap.size, 0, none⟩) rl).trans r0, (h2.cell (p := ⟨w.heap.size, 1, none⟩) rl).trans r1⟩
        | exact ⟨(h3.cell (p := ⟨w.heap.size, 0, none⟩) rl3).trans s0, (h3.cell (p := ⟨w.heap.size, 1, none⟩) rl3).trans s1⟩)
      ((first
        | (go_at_call 45; refine hre1.mono ?_; rintro e w2 ⟨rfl, h2⟩; have s0 := (h2.cell (p := ⟨w.heap.size, 0, none⟩) rl).trans r0; have s1 := (h2.cell (p := ⟨w.heap.size, 1, none⟩) rl).trans r1; have rl3 : w.heap.size < w2.heap.size := Nat.lt_of_lt_of_le rl h2.size)
        | (go_at_call 55; refine (H.out.2.2.2.2.2 _ _).mono ?_; rintro e w3 ⟨v, rfl, h4, h3⟩)))
    have hW3 : Below W1.heap.size W1 w3 := (gr_drew (Below.refl W1.heap.size W1)).trans (h2.trans (h3.mono h2.size))
    have hll := h4.at_
    obtain ⟨pA, pc, rfl, hex⟩ := hll.ex
    have G := Lib.hid (And.intro hW3 (And.intro (gr_call D.out.1 hW3) hex))
    clear h2 h3 h4 hll hex hW3 s0 s1 rl3
    rw [← M.out.2.2.1]
    have hbl : (boolL (loopsV (m : Int) l)).length = np := by unfold boolL; rw [List.length_map, M.out.2.2.2.2.1]
    rw [hbl]
    clear hbl
    go_wp2_with (fail)
    go_loopg [8, 7] np (fun q iv ov wr => ∃ i : Nat, q = np - i ∧ i ≤ np ∧ iv = .int .i64 (i : Int) ∧ anyT (loopsV (m : Int) l) i = false ∧ Below w3.heap.size w3 wr ∧ OwnN wr w3.heap.size ov (flatT (partsV m (rea m (relE l))) i))
    case atStart => exact ⟨0, rfl, Nat.zero_le _, rfl, rfl, Below.refl _ _, ownN_nil _ _⟩
    case round =>
      obtain ⟨i, hq, hi, rfl, hno, hbel, hown⟩ := hrel
      by_cases hin : i < np
      · obtain ⟨cc, hcc⟩ : ∃ cc, (partsV m (rea m (relE l)))[i]? = some cc := ⟨_, List.getElem?_eq_getElem (by rw [← M.out.2.2.1]; exact hin)⟩
        obtain ⟨b, hb⟩ : ∃ b, (loopsV (m : Int) l)[i]? = some b := ⟨_, List.getElem?_eq_getElem (by rw [M.out.2.2.2.2.1]; exact hin)⟩
        obtain ⟨g, rfl, hgl, hcells⟩ := G.out.2.2 (fun e => by rw [e] at hcc; simp at hcc)
        obtain ⟨bg, bo, rfl, hbgl, hbc⟩ := D.out.2 (fun e => by
          have : (boolL (loopsV (m : Int) l)).length = 0 := by rw [e]; rfl
          unfold boolL at this
          rw [List.length_map, M.out.2.2.2.2.1] at this
          omega)
        obtain ⟨u, cu, hun⟩ := hcells i cc hcc
        have hun' := hun.below hbel
        obtain ⟨Au, uc, hu', _⟩ := hun.ex
        have cu' := (hbel.cell (p := ⟨g, i, none⟩) hgl).trans cu
        have hW := gr_call G.out.1 hbel
        have cb := (hW.cell (p := ⟨bg, bo + i, none⟩) hbgl).trans (hbc i (.bool b) (by unfold boolL; rw [List.getElem?_map, hb]; rfl))
        have hbg' := Nat.lt_of_lt_of_le hbgl hW.size
        have hi' : (i : Int) < (np : Int) := by omega
        have hgl' := Nat.lt_of_lt_of_le hgl hbel.size
        have hst := anyT_succ hb hno
        have hfl : flatT (partsV m (rea m (relE l))) (i + 1) = flatT (partsV m (rea m (relE l))) i ++ cc := flat_take hcc
        have hlen : (flatT (partsV m (rea m (relE l))) i).length + cc.length ≤ 1000000 := by
          unfold flatT
          rw [flat_len, ← sumL_take hcc]
          have := sumL_take_le (partsV m (rea m (relE l))) (i + 1)
          have := M.out.2.2.2.2.2
          omega
        have hne := (M.out.2.2.2.1.2 cc (List.mem_of_getElem? hcc)).1
        have hW' := hbel.size
        cases b with
        | true =>
          have e1 : eOrder (m : Int) l = 16 := by rw [M.out.1, anyT_in hb]; rfl
          have e2 : vOrder (m : Int) l = [] := by rw [M.out.2.1, e1, if_neg (by decide)]
          have P := Lib.hid (And.intro e1 (And.intro e2 (gr_call G.out.2.1 hbel)))
          clear hbel hown hq hno hst hfl hlen hne hcells hun hun' hcc hb cu hbc hW e1 e2
          subst hu'
          go_wp2_with (fail)
          go_ret2
          rw [P.out.1, P.out.2.1]
          exact ⟨_, rfl, NatsAt.nil _, P.out.2.2⟩
        | false =>
          subst hu'
          have P := Lib.hid (And.intro hbel (And.intro hown (And.intro hq (And.intro hst (And.intro hfl (And.intro hun' (And.intro hne hlen)))))))
          clear hbel hown hq hno hst hfl hlen hne hcells hun hun' hcc hb cu hbc hW
          go_wp2_with (at_builtin; refine app_nats rfl _ _ rfl w3.heap.size _ (flatT (partsV m (rea m (relE l))) i) cc rfl P.out.2.1 _ rfl P.out.2.2.2.2.2.1 P.out.2.2.2.2.2.2.1 P.out.2.2.2.2.2.2.2 hW' ?_)
          intro v' w2' hown' hgrow
          have L := Lib.hid (And.intro hown' (P.out.1.grown hgrow P.out.1.size (fun q hq => (P.out.2.1.lt q hq).1)))
          clear hown' hgrow
          go_wp2_with (fail)
          go_roundg (np - (i + 1))
          case measure => have := P.out.2.2.1; omega
          case rel => exact ⟨i + 1, rfl, hin, rfl, P.out.2.2.2.1, L.out.2, by rw [P.out.2.2.2.2.1]; exact L.out.1⟩
      · have ei : i = np := by omega
        subst i
        have hall : (loopsV (m : Int) l).any id = false := by
          have := hno
          unfold anyT at this
          rwa [List.take_of_length_le (by rw [M.out.2.2.2.2.1]; exact Nat.le_refl _)] at this
        have hfl : flatT (partsV m (rea m (relE l))) np = (partsV m (rea m (relE l))).flatten := by unfold flatT; rw [List.take_of_length_le (by rw [M.out.2.2.1]; exact Nat.le_refl _)]
        rw [hfl] at hown
        have e1 : eOrder (m : Int) l = 0 := by rw [M.out.1, hall]; rfl
        have e2 : vOrder (m : Int) l = (partsV m (rea m (relE l))).flatten := by rw [M.out.2.1, e1, if_pos rfl]
        have P := Lib.hid (And.intro e1 (And.intro e2 (And.intro hown (gr_call G.out.2.1 hbel))))
        clear hown hbel hin hall hfl hno hq e1 e2
        go_wp2_with (fail)
        go_ret2
        rw [P.out.1, P.out.2.1]
        exact ⟨_, rfl, P.out.2.2.1.at_, P.out.2.2.2⟩
  · have hE : eOrder n l = (chkG n l).1 := by unfold eOrder; rw [if_neg he]
    have hV : vOrder n l = [] := by unfold vOrder; rw [hE, if_neg he]
    rw [hV, hE]
    obtain ⟨E, hE'⟩ : ∃ E, E = (chkG n l).1 := ⟨_, rfl⟩
    obtain ⟨ln, hln⟩ : ∃ ln, ln = l.length := ⟨_, rfl⟩
    obtain ⟨bl, hbl⟩ : ∃ bl, bl = boolL (vLoops n l) := ⟨_, rfl⟩
    rw [← hE', ← hbl] at hlo
    rw [← hE'] at he ⊢
    rw [← hln] at hlo b0 ⊢
    have H := Lib.hid (And.intro b0 hlo)
    have he' : (E != 0) = true := by simpa using he
    clear b0 k0 hlo hA0 hA hE hE' hln hl he hV hbl
    go_enter Try.func30, Try.ntmps30
    go_wp2_with (fail)
    refine H.out.2.mono ?_
    rintro e W1 ⟨v, rfl, _, h1⟩
    have D := Lib.hid (gr_call H.out.1 h1)
    clear h1
    go_wp2_with (fail)
    go_ret2
    exact ⟨_, rfl, NatsAt.nil _, D.out⟩

set_option maxRecDepth 100000 in
set_option maxHeartbeats 4000000 in
theorem reach_ref (n : Int) (l : List Edg) (f : Int) (hl : l.length ≤ 1000000) (A : Option Addr) (c : Nat) (w : World) (hA : Cells w A 2 l.length (edAt l)) :
    Calls Try.prog 14 #[.agg #[.int .i64 n, .slice A l.length c], .int .i64 f] w fun e w' => ∃ v, e = .returned (.tuple #[v, .int .i64 (eReach n l f)]) ∧ NatsAt w' v (vReach n l f) ∧ Below w.heap.size w w' := by
  have b0 := gr_alloc (Below.refl w.heap.size w) (.cells #[.int .i64 n, .slice A l.length c] 24)
  have k0 := Blk.new w 24 #[.int .i64 n, .slice A l.length c]
  have hA0 := hA.below b0
  have hck := rcheck n l hl A c _ hA0
  by_cases he : (chkG n l).1 = 0
  · have hE : eReach n l f = if 0 ≤ f ∧ f < n then 0 else 2 := by unfold eReach; rw [if_pos he]
    obtain ⟨m, rfl, hm, hv, hw, ht⟩ := ok_nat he
    have hR : rR (m : Int) l = rea m (relE l) := by unfold rR; rw [Int.toNat_natCast]
    have hre := fun W hW => reaches_ref m hm l hl hv A c W hW
    rw [he] at hck
    obtain ⟨K, hK⟩ : ∃ K : Int, K = ((chkG (m : Int) l).2 : Int) := ⟨_, rfl⟩
    obtain ⟨ln, hln⟩ : ∃ ln, ln = l.length := ⟨_, rfl⟩
    rw [← hK, ← hln] at hck
    rw [← hln] at hre hA0 b0 k0 ⊢
    have hm' : (m : Int) ≤ 64 := by omega
    by_cases hf : 0 ≤ f ∧ f < (m : Int)
    · obtain ⟨k, rfl⟩ : ∃ k : Nat, f = (k : Int) := ⟨f.toNat, by omega⟩
      rw [if_pos hf] at hE
      have hV : vReach (m : Int) l (k : Int) = rchT (rea m (relE l)) k m := by unfold vReach reachV; rw [hE, if_pos rfl, hR, Int.toNat_natCast, Int.toNat_natCast]; rfl
      rw [hV, hE]
      have hk1 : ¬ (k : Int) < 0 := by omega
      have hk2 : (k : Int) < (m : Int) := hf.2
      have hk7 : ¬ m ≤ k := by omega
      have hk6 : k < 64 := by omega
      have hk8 : (k : Int) < 64 := by omega
      obtain ⟨ct, hct⟩ : ∃ ct, ct = tabC (rea m (relE l)) := ⟨_, rfl⟩
      rw [← hct] at hre
      have hcz : ct.size = 4096 := by rw [hct, tabC_size]
      have hone : ct.all (·.oneCell') = true := by rw [hct]; exact tabC_one _
      have hi2 : (Try.prog.info? 73).map (·.size) = some ct.size := by rw [hcz]; exact infoTab
      have H := Lib.hid (And.intro b0 (And.intro k0 (And.intro hA0 (And.intro hck (And.intro hre hct)))))
      clear b0 k0 hA0 hA hck hre hct hK he hln hl hv hR hw ht hE hV hf
      go_enter Try.func14, Try.ntmps14
      go_wp2_with (fail)
      refine H.out.2.2.2.1.mono ?_
      rintro e W1 ⟨rfl, h1⟩
      have kk := H.out.2.1.call h1
      have r0 := kk.cell' (i := 0) rfl
      have r1 := kk.cell' (i := 1) rfl
      have rl := kk.lt
      have D := Lib.hid (And.intro (gr_call H.out.1 h1) (And.intro (H.out.2.2.2.2.1 W1 (H.out.2.2.1.below h1)) kk))
      clear h1 kk
      go_wp2_with (fail)
      refine D.out.2.1.mono ?_
      rintro e W2 ⟨rfl, h2⟩
      obtain ⟨wx, hwx, kx, bx⟩ := tab_stored W2 ct hcz
      have thr := tab_there W2 ct hcz
      have kk := (D.out.2.2.call h2).call bx
      have hbw := gr_call (gr_call D.out.1 h2) bx
      have F := Lib.hid (And.intro hbw (And.intro kx kk))
      clear h2 kk bx kx hbw
      go_wp2_with (refine wpList_store_mid rfl 73 _ _ rfl W2.heap.size 0 ct rfl rfl thr hi2 hone ?_; rw [hwx]; clear thr hi2 hone hwx)
      go_loopg [10, 9] m (fun q iv ov wr => ∃ i : Nat, q = m - i ∧ i ≤ m ∧ iv = .int .i64 (i : Int) ∧ Below wx.heap.size wx wr ∧ OwnN wr wx.heap.size ov (rchT (rea m (relE l)) k i))
      case atStart => exact ⟨0, rfl, Nat.zero_le _, rfl, Below.refl _ _, ownN_nil _ _⟩
      case round =>
        obtain ⟨i, hq, hi, rfl, hbel, hown⟩ := hrel
        have kk := F.out.2.2.call hbel
        have s0 := kk.cell' (i := 0) rfl
        have sl := kk.lt
        by_cases him : i < m
        · have hi6 : i < 64 := by omega
          have hi8 : (i : Int) < 64 := by omega
          have him' : (i : Int) < (m : Int) := by omega
          have kt := F.out.2.1.call hbel
          rw [H.out.2.2.2.2.2] at kt
          have ctt := kt.cell' (tabC_at (rea m (relE l)) hk6 hi6)
          have tl := kt.lt
          have hst := rchT_succ (rea m (relE l)) k i
          have hfl : (rchT (rea m (relE l)) k i).length ≤ 1000000 := by have := rchT_len (rea m (relE l)) k i; omega
          have bz := hbel.size
          have B := Lib.hid (And.intro hst (And.intro hbel (And.intro hown (And.intro hfl hq))))
          clear hst hbel hown hfl hq kk kt
          cases hr : rea m (relE l) k i with
          | true =>
            rw [hr] at ctt
            have P := Lib.hid (And.intro hr (And.intro (show (wr.alloc (.cells #[.int .i64 (i : Int)] 3)).cell? ⟨wr.heap.size, 0, none⟩ = some (.int .i64 (i : Int)) from (Blk.new wr 3 #[.int .i64 (i : Int)]).cell' rfl) (own_below B.out.2.2.1 (gr_alloc (Below.refl _ _) (.cells #[.int .i64 (i : Int)] 3)) (Nat.le_refl _))))
            clear hr
            go_wp2_with (at_builtin; refine app_one rfl _ _ (t := 25) rfl wx.heap.size Try.underlying25 infoInt rfl (by decide) _ _ _ rfl P.out.2.2 wr.heap.size (.int .i64 (i : Int)) rfl P.out.2.1 rfl B.out.2.2.2.1 (by simp; omega) ?_)
            intro v' w2 hown' hgrow _
            have L := Lib.hid (And.intro hown' ((gr_alloc B.out.2.1 (.cells #[.int .i64 (i : Int)] 3)).grown hgrow (by simp; omega) (fun q hq => (P.out.2.2.lt q hq).1)))
            clear hown' hgrow
            go_wp2_with (fail)
            go_roundg (m - (i + 1))
            case measure => have := B.out.2.2.2.2; omega
            case rel =>
              refine ⟨i + 1, rfl, him, rfl, L.out.2, ?_⟩
              rw [B.out.1, if_pos P.out.1]
              unfold OwnN
              rw [natC_snoc, List.length_append]
              exact L.out.1
          | false =>
            rw [hr] at ctt
            have P := Lib.hid hr
            clear hr
            go_wp2_with (fail)
            go_roundg (m - (i + 1))
            case measure => have := B.out.2.2.2.2; omega
            case rel => exact ⟨i + 1, rfl, him, rfl, B.out.2.1, by rw [B.out.1, if_neg (by rw [P.out]; decide)]; exact B.out.2.2.1⟩
        · have ei : i = m := by omega
          subst i
          have B := Lib.hid (And.intro hbel hown)
          clear hbel hown him hq kk
          go_wp2_with (fail)
          go_ret2
          exact ⟨_, rfl, B.out.2.at_, gr_call F.out.1 B.out.1⟩
    · rw [if_neg hf] at hE
      have hV : vReach (m : Int) l f = [] := by unfold vReach; rw [hE, if_neg (by decide)]
      rw [hV, hE]
      have H := Lib.hid (And.intro b0 (And.intro k0 hck))
      clear b0 k0 hA0 hA hck hre hK he hln hl hv hR hw ht hE hV
      by_cases h0 : f < 0
      · clear hf
        go_enter Try.func14, Try.ntmps14
        go_wp2_with (fail)
        refine H.out.2.2.mono ?_
        rintro e W1 ⟨rfl, h1⟩
        have kk := H.out.2.1.call h1
        have r0 := kk.cell' (i := 0) rfl
        have rl := kk.lt
        have D := Lib.hid (gr_call H.out.1 h1)
        clear h1 kk
        go_wp2_with (fail)
        go_ret2
        exact ⟨_, rfl, NatsAt.nil _, D.out⟩
      · have h3 : (m : Int) ≤ f := by omega
        clear hf
        go_enter Try.func14, Try.ntmps14
        go_wp2_with (fail)
        refine H.out.2.2.mono ?_
        rintro e W1 ⟨rfl, h1⟩
        have kk := H.out.2.1.call h1
        have r0 := kk.cell' (i := 0) rfl
        have rl := kk.lt
        have D := Lib.hid (gr_call H.out.1 h1)
        clear h1 kk
        go_wp2_with (fail)
        go_ret2
        exact ⟨_, rfl, NatsAt.nil _, D.out⟩
  · have hE0 : eReach n l f = (chkG n l).1 := by unfold eReach; rw [if_neg he]
    rw [hE0]
    have hV : vReach n l f = [] := by unfold vReach; rw [hE0, if_neg he]
    rw [hV]
    obtain ⟨E, hE⟩ : ∃ E, E = (chkG n l).1 := ⟨_, rfl⟩
    obtain ⟨K, hK⟩ : ∃ K : Int, K = ((chkG n l).2 : Int) := ⟨_, rfl⟩
    obtain ⟨ln, hln⟩ : ∃ ln, ln = l.length := ⟨_, rfl⟩
    rw [← hE, ← hK] at hck
    rw [← hE] at he ⊢
    rw [← hln] at hck b0 ⊢
    have H := Lib.hid (And.intro b0 hck)
    have he' : (E != 0) = true := by simpa using he
    have heq : (E == 0) = false := by simpa using he
    clear b0 k0 hck hA0 hA hE hK hln hl he hV hE0
    go_enter Try.func14, Try.ntmps14
    go_wp2_with (fail)
    refine H.out.2.mono ?_
    rintro e W1 ⟨rfl, h1⟩
    have D := Lib.hid (gr_call H.out.1 h1)
    clear h1
    go_wp2_with (fail)
    go_ret2
    exact ⟨_, rfl, NatsAt.nil _, D.out⟩
end Go.Proofs.Ytjgkiiohbceocaa
