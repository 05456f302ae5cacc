/-
  The reference's Order and Reach, walked; conditions: at most 1000000 edges.
  The reference's linked, walked; conditions: nodes below 64.
  The reference's Condense, walked; conditions: at most 1000000 edges.
-/
import Derived.Test.YtjgkiiohbceocaaScY
namespace Go.Proofs.Ytjgkiiohbceocaa
open Go.RowKit
set_option linter.unusedVariables false
set_option linter.unusedSimpArgs false

/-- A loop is found among the components exactly if a node reaches itself. -/
theorem loops_lpT {n : Nat} {R : Nat → Nat → Bool} (ht : Trans' R) : ((partsV n R).map fun c => R (c.headD 0) (c.headD 0)).any id = lpT R n := by
  rw [Bool.eq_iff_iff]
  unfold lpT
  rw [List.any_eq_true, List.any_eq_true]
  constructor
  · rintro ⟨b, hb, h⟩
    obtain ⟨c, hc, rfl⟩ := List.mem_map.1 hb
    obtain ⟨i, hi⟩ := List.mem_iff_getElem?.1 hc
    obtain ⟨r, t, rfl, hr⟩ := partsV_ne ht hi
    exact ⟨r, List.mem_range.2 (partsR_lt ht hr).1, h⟩
  · rintro ⟨i, hi, h⟩
    obtain ⟨r, h1, h2, h3⟩ := root_of ht i
    have hi' := List.mem_range.1 hi
    obtain ⟨k, hk⟩ := List.mem_iff_getElem?.1 ((partsR_mem (n := n) ht).2 ⟨by omega, h2⟩)
    refine ⟨R r r, List.mem_map.2 ⟨mem_ n R r, ?_, ?_⟩, tog_reach ht (tog_symm h3) (tog_symm h3) h⟩
    · unfold partsV
      exact List.mem_map.2 ⟨r, List.mem_of_getElem? hk, rfl⟩
    · obtain ⟨t, e⟩ := mem_head (n := n) (show r < n by omega) h2
      rw [e]; rfl
def anyT (bs : List Bool) (i : Nat) : Bool := (bs.take i).any id
theorem anyT_succ {bs : List Bool} {i : Nat} {b : Bool} (hb : bs[i]? = some b) (h : anyT bs i = false) : anyT bs (i + 1) = b := by
  unfold anyT at h ⊢
  rw [List.take_add_one, hb, List.any_append, h, Bool.false_or]
  simp
theorem anyT_in {bs : List Bool} {i : Nat} (hb : bs[i]? = some true) : bs.any id = true := List.any_eq_true.2 ⟨true, List.mem_of_getElem? hb, rfl⟩
def flatT (ls : List (List Nat)) (i : Nat) : List Nat := (ls.take i).flatten

set_option maxRecDepth 100000 in
set_option maxHeartbeats 4000000 in
theorem order_ref (n : Int) (l : List Edg) (hl : l.length ≤ 1000000) (A : Option Addr) (c : Nat) (w : World) (hA : Cells w A 2 l.length (edAt l)) :
    Calls Try.prog 30 #[.agg #[.int .i64 n, .slice A l.length c]] w fun e w' => ∃ v, e = .returned (.tuple #[v, .int .i64 (eOrder n l)]) ∧ NatsAt w' v (vOrder n l) ∧ Below w.heap.size w w' := by
  have b0 := gr_alloc (Below.refl w.heap.size w) (.cells #[.int .i64 n, .slice A l.length c] 24)
  have k0 := Blk.new w 24 #[.int .i64 n, .slice A l.length c]
  have hA0 := hA.below b0
  have hlo := loops_ref n l hl A c _ hA0
  by_cases he : (chkG n l).1 = 0
  · have hE : eOrder n l = if lpT (rR n l) n.toNat = true then 16 else 0 := by unfold eOrder; rw [if_pos he]
    have hLV : vLoops n l = loopsV n l := by unfold vLoops; rw [if_pos he]
    obtain ⟨m, rfl, hm, hv, hw, ht⟩ := ok_nat he
    have hR : rR (m : Int) l = rea m (relE l) := by unfold rR; rw [Int.toNat_natCast]
    have hP : pV (m : Int) l = partsV m (rea m (relE l)) := by unfold pV; rw [hR, Int.toNat_natCast]
    have hLL : loopsV (m : Int) l = (partsV m (rea m (relE l))).map fun c => rea m (relE l) (c.headD 0) (c.headD 0) := by unfold loopsV; rw [hP, hR]
    have hany := loops_lpT (n := m) ht
    rw [← hLL] at hany
    rw [hR, Int.toNat_natCast, ← hany] at hE
    have hOV : vOrder (m : Int) l = if eOrder (m : Int) l = 0 then (partsV m (rea m (relE l))).flatten else [] := by unfold vOrder; rw [hP]
    rw [he, hLV] at hlo
    have hre := fun W hW => reaches_ref m hm l hl hv A c W hW
    obtain ⟨ln, hln⟩ : ∃ ln, ln = l.length := ⟨_, rfl⟩
    obtain ⟨ct, hct⟩ : ∃ ct, ct = tabC (rea m (relE l)) := ⟨_, rfl⟩
    have hpa := fun ev W => partsR_ref m hm (rea m (relE l)) ht ev W
    rw [← hct] at hre hpa
    rw [← hln] at hlo
    rw [← hln] at hre hA0 b0 k0 ⊢
    have hpw := parts_what ht hm
    obtain ⟨np, hnp⟩ : ∃ np, np = (partsV m (rea m (relE l))).length := ⟨_, rfl⟩
    have hnp64 : np ≤ 64 := by rw [hnp]; exact hpw.1
    have hbl : (loopsV (m : Int) l).length = np := by rw [hLL, List.length_map, hnp]
    have hsum : sumL (partsV m (rea m (relE l))) ≤ 100000 := Nat.le_trans (sumL_le (B := 64) fun q hq => (hpw.2 q hq).2.1) (Nat.le_trans (Nat.mul_le_mul_right 64 hpw.1) (by decide))
    have H := Lib.hid (And.intro b0 (And.intro k0 (And.intro hA0 (And.intro hlo (And.intro hre hpa)))))
    have M := Lib.hid (And.intro hE (And.intro hOV (And.intro hnp (And.intro hpw (And.intro hbl hsum)))))
    clear b0 k0 hA0 hA hlo hre hpa hct hln he hP hR hv hw ht hl hpw hnp hE hLV hLL hany hOV hbl hsum
    go_enter Try.func30, Try.ntmps30
    go_wp2_with (fail)
    refine H.out.2.2.2.1.mono ?_
    rintro e W1 ⟨vl, rfl, hcv, h1⟩
    obtain ⟨bA, bc, rfl, hbc⟩ := hcv.ex
    have kk := H.out.2.1.call h1
    have r0 := kk.cell' (i := 0) rfl
    have r1 := kk.cell' (i := 1) rfl
    have rl := kk.lt
    have hre1 := H.out.2.2.2.2.1 W1.drew (H.out.2.2.1.below (gr_drew h1))
    have D := Lib.hid (And.intro (gr_call H.out.1 h1) hbc)
    clear h1 kk hcv hbc
    go_wp2_with (fail)
    go_region_held_law (fun w' => w'.cell? ⟨w.heap.size, 0, none⟩ = some (.int .i64 (m : Int)) ∧ w'.cell? ⟨w.heap.size, 1, none⟩ = some (.slice A ln c))
      (first
        | ((try simp only [World.cell?_drew]); (refine ⟨?_, ?_⟩ <;> assumption))
        | exact ⟨(h2.cell (p := ⟨w.heap.size, 0, none⟩) rl).trans r0, (h2.cell (p := ⟨w.heap.size, 1, none⟩) rl).trans r1⟩
        | exact ⟨(h3.cell (p := ⟨w.heap.size, 0, none⟩) rl3).trans s0, (h3.cell (p := ⟨w.heap.size, 1, none⟩) rl3).trans s1⟩)
      ((first
        | (go_at_call 45; refine hre1.mono ?_; rintro e w2 ⟨rfl, h2⟩; have s0 := (h2.cell (p := ⟨w.heap.size, 0, none⟩) rl).trans r0; have s1 := (h2.cell (p := ⟨w.heap.size, 1, none⟩) rl).trans r1; have rl3 : w.heap.size < w2.heap.size := Nat.lt_of_lt_of_le rl h2.size)
        | (go_at_call 55; refine (H.out.2.2.2.2.2 _ _).mono ?_; rintro e w3 ⟨v, rfl, h4, h3⟩)))
    have hW3 : Below W1.heap.size W1 w3 := (gr_drew (Below.refl W1.heap.size W1)).trans (h2.trans (h3.mono h2.size))
    have hll := h4.at_
    obtain ⟨pA, pc, rfl, hex⟩ := hll.ex
    have G := Lib.hid (And.intro hW3 (And.intro (gr_call D.out.1 hW3) hex))
    clear h2 h3 h4 hll hex hW3 s0 s1 rl3
    rw [← M.out.2.2.1]
    have hbl : (boolL (loopsV (m : Int) l)).length = np := by unfold boolL; rw [List.length_map, M.out.2.2.2.2.1]
    rw [hbl]
    clear hbl
    go_wp2_with (fail)
    go_loopg [8, 7] np (fun q iv ov wr => ∃ i : Nat, q = np - i ∧ i ≤ np ∧ iv = .int .i64 (i : Int) ∧ anyT (loopsV (m : Int) l) i = false ∧ Below w3.heap.size w3 wr ∧ OwnN wr w3.heap.size ov (flatT (partsV m (rea m (relE l))) i))
    case atStart => exact ⟨0, rfl, Nat.zero_le _, rfl, rfl, Below.refl _ _, ownN_nil _ _⟩
    case round =>
      obtain ⟨i, hq, hi, rfl, hno, hbel, hown⟩ := hrel
      by_cases hin : i < np
      · obtain ⟨cc, hcc⟩ : ∃ cc, (partsV m (rea m (relE l)))[i]? = some cc := ⟨_, List.getElem?_eq_getElem (by rw [← M.out.2.2.1]; exact hin)⟩
        obtain ⟨b, hb⟩ : ∃ b, (loopsV (m : Int) l)[i]? = some b := ⟨_, List.getElem?_eq_getElem (by rw [M.out.2.2.2.2.1]; exact hin)⟩
        obtain ⟨g, rfl, hgl, hcells⟩ := G.out.2.2 (fun e => by rw [e] at hcc; simp at hcc)
        obtain ⟨bg, bo, rfl, hbgl, hbc⟩ := D.out.2 (fun e => by
          have : (boolL (loopsV (m : Int) l)).length = 0 := by rw [e]; rfl
          unfold boolL at this
          rw [List.length_map, M.out.2.2.2.2.1] at this
          omega)
        obtain ⟨u, cu, hun⟩ := hcells i cc hcc
        have hun' := hun.below hbel
        obtain ⟨Au, uc, hu', _⟩ := hun.ex
        have cu' := (hbel.cell (p := ⟨g, i, none⟩) hgl).trans cu
        have hW := gr_call G.out.1 hbel
        have cb := (hW.cell (p := ⟨bg, bo + i, none⟩) hbgl).trans (hbc i (.bool b) (by unfold boolL; rw [List.getElem?_map, hb]; rfl))
        have hbg' := Nat.lt_of_lt_of_le hbgl hW.size
        have hi' : (i : Int) < (np : Int) := by omega
        have hgl' := Nat.lt_of_lt_of_le hgl hbel.size
        have hst := anyT_succ hb hno
        have hfl : flatT (partsV m (rea m (relE l))) (i + 1) = flatT (partsV m (rea m (relE l))) i ++ cc := flat_take hcc
        have hlen : (flatT (partsV m (rea m (relE l))) i).length + cc.length ≤ 1000000 := by
          unfold flatT
          rw [flat_len, ← sumL_take hcc]
          have := sumL_take_le (partsV m (rea m (relE l))) (i + 1)
          have := M.out.2.2.2.2.2
          omega
        have hne := (M.out.2.2.2.1.2 cc (List.mem_of_getElem? hcc)).1
        have hW' := hbel.size
        cases b with
        | true =>
          have e1 : eOrder (m : Int) l = 16 := by rw [M.out.1, anyT_in hb]; rfl
          have e2 : vOrder (m : Int) l = [] := by rw [M.out.2.1, e1, if_neg (by decide)]
          have P := Lib.hid (And.intro e1 (And.intro e2 (gr_call G.out.2.1 hbel)))
          clear hbel hown hq hno hst hfl hlen hne hcells hun hun' hcc hb cu hbc hW e1 e2
          subst hu'
          go_wp2_with (fail)
          go_ret2
          rw [P.out.1, P.out.2.1]
          exact ⟨_, rfl, NatsAt.nil _, P.out.2.2⟩
        | false =>
          subst hu'
          have P := Lib.hid (And.intro hbel (And.intro hown (And.intro hq (And.intro hst (And.intro hfl (And.intro hun' (And.intro hne hlen)))))))
          clear hbel hown hq hno hst hfl hlen hne hcells hun hun' hcc hb cu hbc hW
          go_wp2_with (at_builtin; refine app_nats rfl _ _ rfl w3.heap.size _ (flatT (partsV m (rea m (relE l))) i) cc rfl P.out.2.1 _ rfl P.out.2.2.2.2.2.1 P.out.2.2.2.2.2.2.1 P.out.2.2.2.2.2.2.2 hW' ?_)
          intro v' w2' hown' hgrow
          have L := Lib.hid (And.intro hown' (P.out.1.grown hgrow P.out.1.size (fun q hq => (P.out.2.1.lt q hq).1)))
          clear hown' hgrow
          go_wp2_with (fail)
          go_roundg (np - (i + 1))
          case measure => have := P.out.2.2.1; omega
          case rel => exact ⟨i + 1, rfl, hin, rfl, P.out.2.2.2.1, L.out.2, by rw [P.out.2.2.2.2.1]; exact L.out.1⟩
      · have ei : i = np := by omega
        subst i
        have hall : (loopsV (m : Int) l).any id = false := by
          have := hno
          unfold anyT at this
          rwa [List.take_of_length_le (by rw [M.out.2.2.2.2.1]; exact Nat.le_refl _)] at this
        have hfl : flatT (partsV m (rea m (relE l))) np = (partsV m (rea m (relE l))).flatten := by unfold flatT; rw [List.take_of_length_le (by rw [M.out.2.2.1]; exact Nat.le_refl _)]
        rw [hfl] at hown
        have e1 : eOrder (m : Int) l = 0 := by rw [M.out.1, hall]; rfl
        have e2 : vOrder (m : Int) l = (partsV m (rea m (relE l))).flatten := by rw [M.out.2.1, e1, if_pos rfl]
        have P := Lib.hid (And.intro e1 (And.intro e2 (And.intro hown (gr_call G.out.2.1 hbel))))
        clear hown hbel hin hall hfl hno hq e1 e2
        go_wp2_with (fail)
        go_ret2
        rw [P.out.1, P.out.2.1]
        exact ⟨_, rfl, P.out.2.2.1.at_, P.out.2.2.2⟩
  · have hE : eOrder n l = (chkG n l).1 := by unfold eOrder; rw [if_neg he]
    have hV : vOrder n l = [] := by unfold vOrder; rw [hE, if_neg he]
    rw [hV, hE]
    obtain ⟨E, hE'⟩ : ∃ E, E = (chkG n l).1 := ⟨_, rfl⟩
    obtain ⟨ln, hln⟩ : ∃ ln, ln = l.length := ⟨_, rfl⟩
    obtain ⟨bl, hbl⟩ : ∃ bl, bl = boolL (vLoops n l) := ⟨_, rfl⟩
    rw [← hE', ← hbl] at hlo
    rw [← hE'] at he ⊢
    rw [← hln] at hlo b0 ⊢
    have H := Lib.hid (And.intro b0 hlo)
    have he' : (E != 0) = true := by simpa using he
    clear b0 k0 hlo hA0 hA hE hE' hln hl he hV hbl
    go_enter Try.func30, Try.ntmps30
    go_wp2_with (fail)
    refine H.out.2.mono ?_
    rintro e W1 ⟨v, rfl, _, h1⟩
    have D := Lib.hid (gr_call H.out.1 h1)
    clear h1
    go_wp2_with (fail)
    go_ret2
    exact ⟨_, rfl, NatsAt.nil _, D.out⟩

set_option maxRecDepth 100000 in
set_option maxHeartbeats 4000000 in
theorem reach_ref (n : Int) (l : List Edg) (f : Int) (hl : l.length ≤ 1000000) (A : Option Addr) (c : Nat) (w : World) (hA : Cells w A 2 l.length (edAt l)) :
    Calls Try.prog 14 #[.agg #[.int .i64 n, .slice A l.length c], .int .i64 f] w fun e w' => ∃ v, e = .returned (.tuple #[v, .int .i64 (eReach n l f)]) ∧ NatsAt w' v (vReach n l f) ∧ Below w.heap.size w w' := by
  have b0 := gr_alloc (Below.refl w.heap.size w) (.cells #[.int .i64 n, .slice A l.length c] 24)
  have k0 := Blk.new w 24 #[.int .i64 n, .slice A l.length c]
  have hA0 := hA.below b0
  have hck := rcheck n l hl A c _ hA0
  by_cases he : (chkG n l).1 = 0
  · have hE : eReach n l f = if 0 ≤ f ∧ f < n then 0 else 2 := by unfold eReach; rw [if_pos he]
    obtain ⟨m, rfl, hm, hv, hw, ht⟩ := ok_nat he
    have hR : rR (m : Int) l = rea m (relE l) := by unfold rR; rw [Int.toNat_natCast]
    have hre := fun W hW => reaches_ref m hm l hl hv A c W hW
    rw [he] at hck
    obtain ⟨K, hK⟩ : ∃ K : Int, K = ((chkG (m : Int) l).2 : Int) := ⟨_, rfl⟩
    obtain ⟨ln, hln⟩ : ∃ ln, ln = l.length := ⟨_, rfl⟩
    rw [← hK, ← hln] at hck
    rw [← hln] at hre hA0 b0 k0 ⊢
    have hm' : (m : Int) ≤ 64 := by omega
    by_cases hf : 0 ≤ f ∧ f < (m : Int)
    · obtain ⟨k, rfl⟩ : ∃ k : Nat, f = (k : Int) := ⟨f.toNat, by omega⟩
      rw [if_pos hf] at hE
      have hV : vReach (m : Int) l (k : Int) = rchT (rea m (relE l)) k m := by unfold vReach reachV; rw [hE, if_pos rfl, hR, Int.toNat_natCast, Int.toNat_natCast]; rfl
      rw [hV, hE]
      have hk1 : ¬ (k : Int) < 0 := by omega
      have hk2 : (k : Int) < (m : Int) := hf.2
      have hk7 : ¬ m ≤ k := by omega
      have hk6 : k < 64 := by omega
      have hk8 : (k : Int) < 64 := by omega
      obtain ⟨ct, hct⟩ : ∃ ct, ct = tabC (rea m (relE l)) := ⟨_, rfl⟩
      rw [← hct] at hre
      have hcz : ct.size = 4096 := by rw [hct, tabC_size]
      have hone : ct.all (·.oneCell') = true := by rw [hct]; exact tabC_one _
      have hi2 : (Try.prog.info? 73).map (·.size) = some ct.size := by rw [hcz]; exact infoTab
      have H := Lib.hid (And.intro b0 (And.intro k0 (And.intro hA0 (And.intro hck (And.intro hre hct)))))
      clear b0 k0 hA0 hA hck hre hct hK he hln hl hv hR hw ht hE hV hf
      go_enter Try.func14, Try.ntmps14
      go_wp2_with (fail)
      refine H.out.2.2.2.1.mono ?_
      rintro e W1 ⟨rfl, h1⟩
      have kk := H.out.2.1.call h1
      have r0 := kk.cell' (i := 0) rfl
      have r1 := kk.cell' (i := 1) rfl
      have rl := kk.lt
      have D := Lib.hid (And.intro (gr_call H.out.1 h1) (And.intro (H.out.2.2.2.2.1 W1 (H.out.2.2.1.below h1)) kk))
      clear h1 kk
      go_wp2_with (fail)
      refine D.out.2.1.mono ?_
      rintro e W2 ⟨rfl, h2⟩
      obtain ⟨wx, hwx, kx, bx⟩ := tab_stored W2 ct hcz
      have thr := tab_there W2 ct hcz
      have kk := (D.out.2.2.call h2).call bx
      have hbw := gr_call (gr_call D.out.1 h2) bx
      have F := Lib.hid (And.intro hbw (And.intro kx kk))
      clear h2 kk bx kx hbw
      go_wp2_with (refine wpList_store_mid rfl 73 _ _ rfl W2.heap.size 0 ct rfl rfl thr hi2 hone ?_; rw [hwx]; clear thr hi2 hone hwx)
      go_loopg [10, 9] m (fun q iv ov wr => ∃ i : Nat, q = m - i ∧ i ≤ m ∧ iv = .int .i64 (i : Int) ∧ Below wx.heap.size wx wr ∧ OwnN wr wx.heap.size ov (rchT (rea m (relE l)) k i))
      case atStart => exact ⟨0, rfl, Nat.zero_le _, rfl, Below.refl _ _, ownN_nil _ _⟩
      case round =>
        obtain ⟨i, hq, hi, rfl, hbel, hown⟩ := hrel
        have kk := F.out.2.2.call hbel
        have s0 := kk.cell' (i := 0) rfl
        have sl := kk.lt
        by_cases him : i < m
        · have hi6 : i < 64 := by omega
          have hi8 : (i : Int) < 64 := by omega
          have him' : (i : Int) < (m : Int) := by omega
          have kt := F.out.2.1.call hbel
          rw [H.out.2.2.2.2.2] at kt
          have ctt := kt.cell' (tabC_at (rea m (relE l)) hk6 hi6)
          have tl := kt.lt
          have hst := rchT_succ (rea m (relE l)) k i
          have hfl : (rchT (rea m (relE l)) k i).length ≤ 1000000 := by have := rchT_len (rea m (relE l)) k i; omega
          have bz := hbel.size
          have B := Lib.hid (And.intro hst (And.intro hbel (And.intro hown (And.intro hfl hq))))
          clear hst hbel hown hfl hq kk kt
          cases hr : rea m (relE l) k i with
          | true =>
            rw [hr] at ctt
            have P := Lib.hid (And.intro hr (And.intro (show (wr.alloc (.cells #[.int .i64 (i : Int)] 3)).cell? ⟨wr.heap.size, 0, none⟩ = some (.int .i64 (i : Int)) from (Blk.new wr 3 #[.int .i64 (i : Int)]).cell' rfl) (own_below B.out.2.2.1 (gr_alloc (Below.refl _ _) (.cells #[.int .i64 (i : Int)] 3)) (Nat.le_refl _))))
            clear hr
            go_wp2_with (at_builtin; refine app_one rfl _ _ (t := 25) rfl wx.heap.size Try.underlying25 infoInt rfl (by decide) _ _ _ rfl P.out.2.2 wr.heap.size (.int .i64 (i : Int)) rfl P.out.2.1 rfl B.out.2.2.2.1 (by simp; omega) ?_)
            intro v' w2 hown' hgrow _
            have L := Lib.hid (And.intro hown' ((gr_alloc B.out.2.1 (.cells #[.int .i64 (i : Int)] 3)).grown hgrow (by simp; omega) (fun q hq => (P.out.2.2.lt q hq).1)))
            clear hown' hgrow
            go_wp2_with (fail)
            go_roundg (m - (i + 1))
            case measure => have := B.out.2.2.2.2; omega
            case rel =>
              refine ⟨i + 1, rfl, him, rfl, L.out.2, ?_⟩
              rw [B.out.1, if_pos P.out.1]
              unfold OwnN
              rw [natC_snoc, List.length_append]
              exact L.out.1
          | false =>
            rw [hr] at ctt
            have P := Lib.hid hr
            clear hr
            go_wp2_with (fail)
            go_roundg (m - (i + 1))
            case measure => have := B.out.2.2.2.2; omega
            case rel => exact ⟨i + 1, rfl, him, rfl, B.out.2.1, by rw [B.out.1, if_neg (by rw [P.out]; decide)]; exact B.out.2.2.1⟩
        · have ei : i = m := by omega
          subst i
          have B := Lib.hid (And.intro hbel hown)
          clear hbel hown him hq kk
          go_wp2_with (fail)
          go_ret2
          exact ⟨_, rfl, B.out.2.at_, gr_call F.out.1 B.out.1⟩
    · rw [if_neg hf] at hE
      have hV : vReach (m : Int) l f = [] := by unfold vReach; rw [hE, if_neg (by decide)]
      rw [hV, hE]
      have H := Lib.hid (And.intro b0 (And.intro k0 hck))
      clear b0 k0 hA0 hA hck hre hK he hln hl hv hR hw ht hE hV
      by_cases h0 : f < 0
      · clear hf
        go_enter Try.func14, Try.ntmps14
        go_wp2_with (fail)
        refine H.out.2.2.mono ?_
        rintro e W1 ⟨rfl, h1⟩
        have kk := H.out.2.1.call h1
        have r0 := kk.cell' (i := 0) rfl
        have rl := kk.lt
        have D := Lib.hid (gr_call H.out.1 h1)
        clear h1 kk
        go_wp2_with (fail)
        go_ret2
        exact ⟨_, rfl, NatsAt.nil _, D.out⟩
      · have h3 : (m : Int) ≤ f := by omega
        clear hf
        go_enter Try.func14, Try.ntmps14
        go_wp2_with (fail)
        refine H.out.2.2.mono ?_
        rintro e W1 ⟨rfl, h1⟩
        have kk := H.out.2.1.call h1
        have r0 := kk.cell' (i := 0) rfl
        have rl := kk.lt
        have D := Lib.hid (gr_call H.out.1 h1)
        clear h1 kk
        go_wp2_with (fail)
        go_ret2
        exact ⟨_, rfl, NatsAt.nil _, D.out⟩
  · have hE0 : eReach n l f = (chkG n l).1 := by unfold eReach; rw [if_neg he]
    rw [hE0]
    have hV : vReach n l f = [] := by unfold vReach; rw [hE0, if_neg he]
    rw [hV]
    obtain ⟨E, hE⟩ : ∃ E, E = (chkG n l).1 := ⟨_, rfl⟩
    obtain ⟨K, hK⟩ : ∃ K : Int, K = ((chkG n l).2 : Int) := ⟨_, rfl⟩
    obtain ⟨ln, hln⟩ : ∃ ln, ln = l.length := ⟨_, rfl⟩
    rw [← hE, ← hK] at hck
    rw [← hE] at he ⊢
    rw [← hln] at hck b0 ⊢
    have H := Lib.hid (And.intro b0 hck)
    have he' : (E != 0) = true := by simpa using he
    have heq : (E == 0) = false := by simpa using he
    clear b0 k0 hck hA0 hA hE hK hln hl he hV hE0
    go_enter Try.func14, Try.ntmps14
    go_wp2_with (fail)
    refine H.out.2.mono ?_
    rintro e W1 ⟨rfl, h1⟩
    have D := Lib.hid (gr_call H.out.1 h1)
    clear h1
    go_wp2_with (fail)
    go_ret2
    exact ⟨_, rfl, NatsAt.nil _, D.out⟩
end Go.Proofs.Ytjgkiiohbceocaa
namespace Go.Proofs.Ytjgkiiohbceocaa
open Go.RowKit
set_option linter.unusedVariables false
set_option linter.unusedSimpArgs false

def anyY (E : Nat → Nat → Bool) (x : Nat) (b : List Nat) (j : Nat) : Bool := (b.take j).any fun y => E x y
theorem anyY_zero (E : Nat → Nat → Bool) (x : Nat) (b : List Nat) : anyY E x b 0 = false := by simp [anyY]
theorem anyY_step {E : Nat → Nat → Bool} {b : List Nat} {x j y : Nat} (hy : b[j]? = some y) (h0 : anyY E x b j = false) : anyY E x b (j + 1) = E x y := any_step hy h0
theorem anyY_all (E : Nat → Nat → Bool) (x : Nat) (b : List Nat) : anyY E x b b.length = b.any fun y => E x y := by unfold anyY; rw [List.take_length]
set_option maxRecDepth 100000 in
set_option maxHeartbeats 4000000 in
theorem linked_ref (E : Nat → Nat → Bool) (a b : List Nat) (ha : a ≠ []) (hb : b ≠ []) (hal : a.length ≤ 64) (hbl : b.length ≤ 64) (hax : ∀ x ∈ a, x < 64) (hbx : ∀ x ∈ b, x < 64) (va vb : Value) (w : World) (hva : NatsAt w va a) (hvb : NatsAt w vb b) :
    Calls Try.prog 56 #[.agg (tabC E), va, vb] w fun e w' => e = .returned (.bool (edgL E a b)) ∧ Below w.heap.size w w' := by
  have bb := gr_alloc (Below.refl w.heap.size w) (.cells (tabC E) 73)
  have kt := Blk.new w 73 (tabC E)
  obtain ⟨Aa, c1, rfl, hxa⟩ := (hva.below bb).ex
  obtain ⟨Ab, c2, rfl, hxb⟩ := (hvb.below bb).ex
  obtain ⟨ga, oa, rfl, gal, hca⟩ := hxa ha
  obtain ⟨gb, ob, rfl, gbl, hcb⟩ := hxb hb
  obtain ⟨na, hna⟩ : ∃ m, m = a.length := ⟨_, rfl⟩
  obtain ⟨nb, hnb⟩ : ∃ m, m = b.length := ⟨_, rfl⟩
  rw [← hna, ← hnb]
  rw [← hna] at hal
  rw [← hnb] at hbl
  obtain ⟨ct, hct⟩ : ∃ ct, ct = tabC E := ⟨_, rfl⟩
  rw [← hct] at bb kt hca hcb gal gbl ⊢
  have hcz : ct.size = 4096 := by rw [hct, tabC_size]
  have H := Lib.hid (And.intro bb (And.intro kt (And.intro hca (And.intro hcb (And.intro hna (And.intro hnb (And.intro hax (And.intro hbx hct))))))))
  have tl := kt.lt
  clear bb kt hca hcb hna hnb hax hbx hct hxa hxb hva hvb ha hb
  go_enter Try.func56, Try.ntmps56
  go_wp2_with (fail)
  obtain ⟨X0, hX0⟩ : ∃ X0, w.alloc (.cells ct 73) = X0 := ⟨_, rfl⟩
  rw [hX0] at H tl gal gbl ⊢
  clear hX0
  go_loopg [7] na (fun q iv wr => ∃ p : Nat, q = na - p ∧ p ≤ na ∧ iv = .int .i64 (p : Int) ∧ edgTo E b a p = false ∧ Below X0.heap.size X0 wr)
  case atStart => exact ⟨0, rfl, Nat.zero_le _, rfl, edgTo_zero _ _ _, Below.refl _ _⟩
  case round =>
    obtain ⟨p, hq, hp, rfl, he, hbel⟩ := hrel
    by_cases hpn : p < na
    · obtain ⟨x, hx⟩ : ∃ x, a[p]? = some x := ⟨_, List.getElem?_eq_getElem (by rw [← H.out.2.2.2.2.1]; exact hpn)⟩
      have hx64 : x < 64 := H.out.2.2.2.2.2.2.1 x (List.mem_of_getElem? hx)
      have hp' : (p : Int) < (na : Int) := by omega
      have hx7 : (x : Int) < 64 := by omega
      have B := Lib.hid (And.intro he (And.intro hx (And.intro hbel hq)))
      clear he hx hbel hq
      go_wp2_with (fail)
      go_loopg [8] nb (fun q jv wr => ∃ j : Nat, q = nb - j ∧ j ≤ nb ∧ jv = .int .i64 (j : Int) ∧ anyY E x b j = false ∧ Below X0.heap.size X0 wr)
      case atStart => exact ⟨0, rfl, Nat.zero_le _, rfl, anyY_zero _ _ _, B.out.2.2.1⟩
      case round =>
        obtain ⟨j, hq, hj, rfl, hf, hbel⟩ := hrel
        by_cases hjn : j < nb
        · obtain ⟨y, hy⟩ : ∃ y, b[j]? = some y := ⟨_, List.getElem?_eq_getElem (by rw [← H.out.2.2.2.2.2.1]; exact hjn)⟩
          have hy64 : y < 64 := H.out.2.2.2.2.2.2.2.1 y (List.mem_of_getElem? hy)
          have hj' : (j : Int) < (nb : Int) := by omega
          have hy7 : (y : Int) < 64 := by omega
          have cx := (hbel.cell (p := ⟨ga, oa + p, none⟩) gal).trans (H.out.2.2.1 p x B.out.2.1)
          have cy := (hbel.cell (p := ⟨gb, ob + j, none⟩) gbl).trans (H.out.2.2.2.1 j y hy)
          have kt := H.out.2.1.call hbel
          rw [H.out.2.2.2.2.2.2.2.2] at kt
          have ctt := kt.cell' (tabC_at E hx64 hy64)
          have hst := anyY_step hy hf
          have ga' := Nat.lt_of_lt_of_le gal hbel.size
          have gb' := Nat.lt_of_lt_of_le gbl hbel.size
          have tl' := kt.lt
          have D := Lib.hid (And.intro hst (And.intro hbel (And.intro hq hy)))
          clear hst hbel hq hy hf kt
          cases hE : E x y with
          | true =>
            rw [hE] at ctt
            have F := Lib.hid hE
            clear hE
            go_wp2_with (fail)
            go_region
            all_goals
              go_wp2_with (fail)
              go_ret
              refine ⟨ret_bool (edg_found B.out.2.1 (any_found D.out.2.2.2 F.out)).symm, ?_⟩
              have h9 := gr_call H.out.1 D.out.2.1
              exact ⟨h9.os, h9.tape, h9.output, h9.size, h9.block⟩
          | false =>
            rw [hE] at ctt
            have F := Lib.hid hE
            clear hE
            go_wp2_with (fail)
            go_region
            all_goals
              go_wp2_with (fail)
              go_roundg (nb - (j + 1))
              case measure => have := D.out.2.2.1; omega
              case rel =>
                have h9 := D.out.2.1
                exact ⟨j + 1, rfl, hjn, rfl, D.out.1.trans F.out, ⟨h9.os, h9.tape, h9.output, h9.size, h9.block⟩⟩
        · have ej : j = nb := by omega
          subst j
          have hst := edgTo_step B.out.2.1 B.out.1
          rw [← anyY_all, ← H.out.2.2.2.2.2.1] at hst
          have D := Lib.hid (And.intro hst (And.intro hf hbel))
          clear hst hf hbel hq hjn
          go_wp2_with (fail)
          go_roundg (na - (p + 1))
          case measure => have := B.out.2.2.2; omega
          case rel => exact ⟨p + 1, rfl, hpn, rfl, D.out.1.trans D.out.2.1, D.out.2.2⟩
    · have ep : p = na := by omega
      subst p
      rw [H.out.2.2.2.2.1, edgTo_all] at he
      have B := Lib.hid (And.intro he hbel)
      clear he hbel hq hpn
      go_wp2_with (fail)
      go_ret
      exact ⟨ret_bool B.out.1.symm, gr_call H.out.1 B.out.2⟩
end Go.Proofs.Ytjgkiiohbceocaa
namespace Go.Proofs.Ytjgkiiohbceocaa
open Go.RowKit
set_option linter.unusedVariables false
set_option linter.unusedSimpArgs false

theorem range_below {w w' : World} {b o : Nat} {cs : List Value} (h : w.rangeAt b o cs) (hb : Below w.heap.size w w') (hlt : b < w.heap.size) : w'.rangeAt b o cs := fun j v hv => by
  rw [hb.cell (p := ⟨b, o + j, none⟩) hlt]
  exact h j v hv

set_option maxRecDepth 100000 in
set_option maxHeartbeats 8000000 in
theorem condense_ref (n : Int) (l : List Edg) (hl : l.length ≤ 1000000) (A : Option Addr) (c : Nat) (w : World) (hA : Cells w A 2 l.length (edAt l)) :
    Calls Try.prog 34 #[.agg #[.int .i64 n, .slice A l.length c]] w fun e w' => ∃ v, e = .returned (.tuple #[.agg #[.int .i64 (vCondN n l), v], .int .i64 (chkG n l).1]) ∧ EdgsAt w' v (vCond n l) ∧ Below w.heap.size w w' := by
  have b0 := gr_alloc (gr_alloc (Below.refl w.heap.size w) (.cells #[.int .i64 n, .slice A l.length c] 24)) (.cells #[.int .i64 0, .slice none 0 0] 24)
  have k0 : Blk ((w.alloc (.cells #[.int .i64 n, .slice A l.length c] 24)).alloc (.cells #[.int .i64 0, .slice none 0 0] 24)) w.heap.size 24 #[.int .i64 n, .slice A l.length c] := (Blk.new w _ _).alloc _
  have k1 : Blk ((w.alloc (.cells #[.int .i64 n, .slice A l.length c] 24)).alloc (.cells #[.int .i64 0, .slice none 0 0] 24)) (w.heap.size + 1) 24 #[.int .i64 0, .slice none 0 0] := blk_at (by simp)
  have hA0 := hA.below b0
  have hpr := parts_ref n l hl A c _ hA0
  by_cases he : (chkG n l).1 = 0
  · have hN : vCondN n l = ((pV n l).length : Int) := by unfold vCondN; rw [if_pos he]
    have hC : vCond n l = (condV n l).map conE := by unfold vCond; rw [if_pos he]
    have hPV : vParts n l = pV n l := by unfold vParts; rw [if_pos he]
    obtain ⟨m, rfl, hm, hv, hw, ht⟩ := ok_nat he
    have hdi := fun W hW => direct_ref m hm l hl hv A c W hW
    have hR : rR (m : Int) l = rea m (relE l) := by unfold rR; rw [Int.toNat_natCast]
    have hP : pV (m : Int) l = partsV m (rea m (relE l)) := by unfold pV; rw [hR, Int.toNat_natCast]
    have hV : condV (m : Int) l = condL (partsV m (rea m (relE l))).length (edgP (relE l) (partsV m (rea m (relE l)))) := by unfold condV; rw [hP]
    rw [he] at hpr ⊢
    have hpw := parts_what ht hm
    obtain ⟨ls, hls⟩ : ∃ ls, ls = partsV m (rea m (relE l)) := ⟨_, rfl⟩
    rw [← hls] at hP hV hpw
    rw [hPV, hP] at hpr
    obtain ⟨np, hnp⟩ : ∃ np, np = ls.length := ⟨_, rfl⟩
    rw [hN, hC, hP, hV, ← hnp]
    have hnp64 : np ≤ 64 := by rw [hnp]; exact hpw.1
    obtain ⟨ln, hln⟩ : ∃ ln, ln = l.length := ⟨_, rfl⟩
    obtain ⟨ct, hct⟩ : ∃ ct, ct = tabC (relE l) := ⟨_, rfl⟩
    rw [← hct] at hdi
    rw [← hln] at hpr hdi hA0 b0 k0 k1 ⊢
    have hcz : ct.size = 4096 := by rw [hct, tabC_size]
    have hone : ct.all (·.oneCell') = true := by rw [hct]; exact tabC_one _
    have hi2 : (Try.prog.info? 73).map (·.size) = some ct.size := by rw [hcz]; exact infoTab
    have hi1 : (Try.prog.info? 73).map (·.size) = some ct.toList.length := by rw [Array.length_toList]; exact hi2
    have hu73 := Try.underlying73
    have H := Lib.hid (And.intro b0 (And.intro k0 (And.intro k1 (And.intro hA0 (And.intro hpr (And.intro hdi hct))))))
    have M := Lib.hid (And.intro hnp hpw)
    clear b0 k0 k1 hA0 hA hpr hdi hct he hln hl hv hpw hR hP hw ht hN hC hV hnp hls hPV
    go_enter Try.func34, Try.ntmps34
    go_wp2_with (fail)
    refine H.out.2.2.2.2.1.mono ?_
    rintro e W1 ⟨v, rfl, hll, h1⟩
    obtain ⟨pA, pc, rfl, hex⟩ := hll.ex
    have kk := H.out.2.1.call h1
    have r0 := kk.cell' (i := 0) rfl
    have r1 := kk.cell' (i := 1) rfl
    have rl := kk.lt
    have D := Lib.hid (And.intro (gr_call H.out.1 h1) (And.intro (H.out.2.2.1.call h1) (And.intro (H.out.2.2.2.2.2.1 W1 (H.out.2.2.2.1.below h1)) hex)))
    rw [← M.out.1]
    clear h1 kk hll hex
    go_wp2_with (fail)
    refine D.out.2.2.1.mono ?_
    rintro e W2 ⟨rfl, h2⟩
    obtain ⟨wx, hwx, kx, bx⟩ := tab_stored W2 ct hcz
    have thr := tab_there W2 ct hcz
    have h12 : Below W1.heap.size W1 wx := gr_call h2 bx
    have kr := D.out.2.1.call h12
    have kO := Blk.new wx 24 #[.int .i64 (np : Int), .slice none 0 0]
    have hbO := gr_alloc (Below.refl wx.heap.size wx) (.cells #[.int .i64 (np : Int), .slice none 0 0] 24)
    have F := Lib.hid (And.intro h12 (And.intro kx (And.intro kr (And.intro kO hbO))))
    clear h2 bx kx h12 kr kO hbO
    go_wp2_with (refine wpList_store_mid rfl 73 _ _ rfl W2.heap.size 0 ct rfl rfl thr hi2 hone ?_; rw [hwx]; clear thr hi2 hone hwx)
    go_loopg [8] np (fun q iv wr => ∃ i vE, q = np - i ∧ i ≤ np ∧ iv = .int .i64 (i : Int) ∧ Below wx.heap.size wx wr ∧ Blk wr wx.heap.size 24 #[.int .i64 (np : Int), vE] ∧ OwnE wr wx.heap.size vE (condTo np (edgP (relE l) ls) i))
    case atStart => exact ⟨0, _, rfl, Nat.zero_le _, rfl, F.out.2.2.2.2, F.out.2.2.2.1, ownE_nil _ _⟩
    case round =>
      obtain ⟨i, vE, hq, hi, rfl, hbel, hout, hown⟩ := hrel
      by_cases hin : i < np
      · have hi' : (i : Int) < (np : Int) := by omega
        have B := Lib.hid (And.intro hbel (And.intro hout (And.intro hown hq)))
        clear hbel hout hown hq
        go_wp2_with (fail)
        go_loopg [9] np (fun q kv wr => ∃ k vE, q = np - k ∧ k ≤ np ∧ kv = .int .i64 (k : Int) ∧ Below wx.heap.size wx wr ∧ Blk wr wx.heap.size 24 #[.int .i64 (np : Int), vE] ∧ OwnE wr wx.heap.size vE (condTo np (edgP (relE l) ls) i ++ condRow (edgP (relE l) ls) i k))
        case atStart => exact ⟨0, vE, rfl, Nat.zero_le _, rfl, B.out.1, B.out.2.1, by rw [show condRow (edgP (relE l) ls) i 0 = [] from rfl, List.append_nil]; exact B.out.2.2.1⟩
        case round =>
          obtain ⟨k, vE, hq, hk, rfl, hbel, hout, hown⟩ := hrel
          by_cases hkn : k < np
          · have hk' : (k : Int) < (np : Int) := by omega
            have hst := condRow_succ (edgP (relE l) ls) i k
            by_cases hik : i = k
            · have hik' : ((i : Int) != (k : Int)) = false := by rw [hik]; simp
              have hst2 : condRow (edgP (relE l) ls) i (k + 1) = condRow (edgP (relE l) ls) i k := by rw [hst, decide_eq_false (fun h => h hik), Bool.false_and, if_neg (by decide)]
              have P := Lib.hid (And.intro hst2 (And.intro hbel (And.intro hout (And.intro hown hq))))
              clear hst hst2 hbel hout hown hq hik
              go_wp2_with (fail)
              go_region
              all_goals
                go_wp2_with (fail)
                go_roundg (np - (k + 1))
                case measure => have := P.out.2.2.2.2; omega
                case rel =>
                  have h9 := P.out.2.1
                  exact ⟨k + 1, vE, rfl, hkn, rfl, ⟨h9.os, h9.tape, h9.output, h9.size, h9.block⟩, P.out.2.2.1.drew, by rw [P.out.1]; exact own_drewN P.out.2.2.2.1 1⟩
            · have hik' : ((i : Int) != (k : Int)) = true := by simp; omega
              obtain ⟨la, hla⟩ : ∃ x, ls[i]? = some x := ⟨_, List.getElem?_eq_getElem (by rw [← M.out.1]; exact hin)⟩
              obtain ⟨lb, hlb⟩ : ∃ x, ls[k]? = some x := ⟨_, List.getElem?_eq_getElem (by rw [← M.out.1]; exact hkn)⟩
              have hed : edgP (relE l) ls i k = edgL (relE l) la lb := by unfold edgP; rw [hla, hlb]; rfl
              rw [decide_eq_true hik, Bool.true_and, hed] at hst
              obtain ⟨g, rfl, hgl, hcells⟩ := D.out.2.2.2 (fun e => by rw [e] at hla; simp at hla)
              obtain ⟨ua, ca, hua⟩ := hcells i la hla
              obtain ⟨ub, cb, hub⟩ := hcells k lb hlb
              have hW := gr_call F.out.1 hbel
              have cA := (hW.cell (p := ⟨g, i, none⟩) hgl).trans ca
              have cB := (hW.cell (p := ⟨g, k, none⟩) hgl).trans cb
              have hgl' := Nat.lt_of_lt_of_le hgl hW.size
              obtain ⟨hna, hla64, hxa⟩ := M.out.2.2 la (List.mem_of_getElem? hla)
              obtain ⟨hnb, hlb64, hxb⟩ := M.out.2.2 lb (List.mem_of_getElem? hlb)
              have kt := F.out.2.1.call hbel
              have rT := range_blk kt
              have tl := kt.lt
              have hlk := linked_ref (relE l) la lb hna hnb hla64 hlb64 hxa hxb ua ub wr.drew (hua.below (gr_drew hW)) (hub.below (gr_drew hW))
              rw [← H.out.2.2.2.2.2.2] at hlk
              obtain ⟨aA, ac, hua', _⟩ := hua.ex
              obtain ⟨bA, bc, hub', _⟩ := hub.ex
              obtain ⟨n1, hn1⟩ : ∃ n1, ua = .slice aA n1 ac := ⟨_, hua'⟩
              obtain ⟨n2, hn2⟩ : ∃ n2, ub = .slice bA n2 bc := ⟨_, hub'⟩
              subst hn1 hn2
              obtain ⟨rb, hrb⟩ : ∃ rb, rb = edgL (relE l) la lb := ⟨_, rfl⟩
              rw [← hrb] at hlk hst
              have hlk' : Calls Try.prog 56 #[.agg ct, .slice aA n1 ac, .slice bA n2 bc] wr.drew fun e w' => e = .returned (.bool rb) ∧ (Below wr.heap.size wr w' ∧ (w'.rangeAt W2.heap.size 0 ct.toList ∧ w'.cell? ⟨g, i, none⟩ = some (.slice aA n1 ac) ∧ w'.cell? ⟨g, k, none⟩ = some (.slice bA n2 bc))) := by
                refine hlk.mono ?_
                rintro e w' ⟨h5, h6⟩
                have h7 : Below wr.heap.size wr w' := (gr_drew (Below.refl wr.heap.size wr)).trans h6
                exact ⟨h5, h7, range_below rT h7 tl, (h7.cell (p := ⟨g, i, none⟩) hgl').trans cA, (h7.cell (p := ⟨g, k, none⟩) hgl').trans cB⟩
              have P := Lib.hid (And.intro hst (And.intro hbel (And.intro hout (And.intro hown hq))))
              clear hst hbel hout hown hq hcells ca cb hua hub hua' hub' hla hlb hed hna hnb hxa hxb hlk hW kt hrb
              go_wp2_with (fail)
              go_region_held_law (fun w' => w'.rangeAt W2.heap.size 0 ct.toList ∧ w'.cell? ⟨g, i, none⟩ = some (.slice aA n1 ac) ∧ w'.cell? ⟨g, k, none⟩ = some (.slice bA n2 bc))
                (first
                  | assumption
                  | (simp only [World.cell?_drew, World.rangeAt_drew]; (refine ⟨?_, ?_, ?_⟩ <;> assumption)))
                ((go_at_call 56; refine hlk'.mono ?_; rintro e w3 ⟨rfl, h3, hs3⟩))
              have hbel3 := gr_call P.out.2.1 h3
              have hout3 := P.out.2.2.1.call h3
              have hown3 := own_below P.out.2.2.2.1 h3 (Nat.le_refl _)
              have bz3 := hbel3.size
              cases rb with
              | true =>
                have hst := P.out.1
                rw [if_pos rfl] at hst
                have hcl : (condTo np (edgP (relE l) ls) i ++ condRow (edgP (relE l) ls) i k).length ≤ 1000000 := by
                  have h1 : (condTo np (edgP (relE l) ls) i).length ≤ i * np := condTo_len _ _ _
                  have h2 : (condRow (edgP (relE l) ls) i k).length ≤ k := condRow_len _ _ _
                  have h3 : i * np ≤ 64 * 64 := Nat.mul_le_mul (by omega) hnp64
                  rw [List.length_append]
                  omega
                have cO := hout3.cell' (i := 1) rfl
                have fO := hout3.frozen 1
                have lO := hout3.lt
                have hown2 := own_below hown3 (gr_alloc (Below.refl _ _) (.cells #[.int .i64 (i : Int), .int .i64 (k : Int)] 57)) (Nat.le_refl _)
                have G := Lib.hid (And.intro hst (And.intro hbel3 (And.intro hout3 (And.intro hown3 (And.intro hcl hown2)))))
                clear hst hbel3 hout3 hown3 hcl hown2 h3 hs3
                go_wp2_with (at_builtin; refine app_edg rfl _ _ rfl wx.heap.size _ _ rfl G.out.2.2.2.2.2 w3.heap.size i k rfl (Blk.new _ _ _) G.out.2.2.2.2.1 (by simp; omega) ?_)
                intro v' w4 hown' hgrow
                obtain ⟨xa, xc, hv'⟩ := own_slice hown'
                obtain ⟨xl, hxl⟩ : ∃ xl, v' = .slice xa xl xc := ⟨_, hv'⟩
                clear hv'
                subst hxl
                have hka : Blk (w3.alloc (.cells #[.int .i64 (i : Int), .int .i64 (k : Int)] 57)) wx.heap.size 24 #[.int .i64 (np : Int), vE] := G.out.2.2.1.alloc _
                have hkb := hka.grown hgrow (own_blk_ne G.out.2.2.2.2.2 hka (by decide))
                have cO2 := hkb.cell' (i := 1) rfl
                have fO2 := hkb.frozen 1
                have lO2 := hkb.lt
                have L := Lib.hid (And.intro hown' (And.intro ((gr_alloc G.out.2.1 (.cells #[.int .i64 (i : Int), .int .i64 (k : Int)] 57)).grown hgrow (by simp; omega) (fun q hq => (G.out.2.2.2.2.2.lt q hq).1)) hkb))
                clear hown' hgrow hka hkb
                go_wp2_with (fail)
                go_roundg (np - (k + 1))
                case measure => have := P.out.2.2.2.2; omega
                case rel =>
                  refine ⟨k + 1, _, rfl, hkn, rfl, gr_set L.out.2.1 (Nat.le_refl _) _, L.out.2.2.set_ 1 _, ?_⟩
                  have h9 := own_setCell (g := wx.heap.size) (i := 1) L.out.1 L.out.2.2 (by decide) (.slice xa xl xc)
                  rw [G.out.1]
                  first | exact h9 | (rw [← List.append_assoc]; exact h9)
              | false =>
                have hst := P.out.1
                rw [if_neg (by decide)] at hst
                have G := Lib.hid (And.intro hst (And.intro hbel3 (And.intro hout3 hown3)))
                clear hst hbel3 hout3 hown3 h3 hs3
                go_wp2_with (fail)
                go_roundg (np - (k + 1))
                case measure => have := P.out.2.2.2.2; omega
                case rel => exact ⟨k + 1, vE, rfl, hkn, rfl, G.out.2.1, G.out.2.2.1, by rw [G.out.1]; exact G.out.2.2.2⟩
          · have ek : k = np := by omega
            subst k
            have P := Lib.hid (And.intro hbel (And.intro hout (And.intro hown hq)))
            clear hbel hout hown hq hkn
            go_wp2_with (fail)
            go_roundg (np - (i + 1))
            case measure => have := B.out.2.2.2; omega
            case rel => exact ⟨i + 1, vE, rfl, hin, rfl, P.out.1, P.out.2.1, P.out.2.2.1⟩
      · have ei : i = np := by omega
        subst i
        have hbw := gr_call D.out.1 (gr_call F.out.1 hbel)
        have cO := hout.cell' (i := 0) rfl
        have cO1 := hout.cell' (i := 1) rfl
        have lO := hout.lt
        have hkr := F.out.2.2.1.call hbel
        have r0 := hkr.cell' (i := 0) rfl
        have r1 := hkr.cell' (i := 1) rfl
        have f0 := hkr.frozen 0
        have f1 := hkr.frozen 1
        have rl := hkr.lt
        obtain ⟨ea, ec, rfl⟩ := own_slice hown
        have B := Lib.hid (And.intro hbw (And.intro hown hkr))
        clear hbel hout hown hq hbw hkr hin
        go_wp2_with (fail)
        refine bodyPost_ret (v := .tuple #[.agg #[.int .i64 (np : Int), .slice ea (condTo np (edgP (relE l) ls) np).length ec], .int .i64 0]) (by simp [results, Try.results34, go_sem, r0, r1, rl]) rfl ⟨_, rfl, ?_, ?_⟩
        · exact OwnE.at_ (own_setCell (own_setCell B.out.2.1 B.out.2.2 (by decide) _) (B.out.2.2.set_ 0 _) (by decide) _)
        · exact gr_set (gr_set B.out.1 (by simp) _) (by simp) _
  · have hN : vCondN n l = 0 := by unfold vCondN; rw [if_neg he]
    have hC : vCond n l = [] := by unfold vCond; rw [if_neg he]
    rw [hN, hC]
    obtain ⟨E, hE⟩ : ∃ E, E = (chkG n l).1 := ⟨_, rfl⟩
    obtain ⟨ln, hln⟩ : ∃ ln, ln = l.length := ⟨_, rfl⟩
    obtain ⟨pl, hpl⟩ : ∃ pl, pl = vParts n l := ⟨_, rfl⟩
    rw [← hE, ← hpl] at hpr
    rw [← hE] at he ⊢
    rw [← hln] at hpr b0 k1 ⊢
    have H := Lib.hid (And.intro b0 (And.intro k1 hpr))
    have he' : (E != 0) = true := by simpa using he
    clear b0 hpr hA0 hA hE hln hl he hN hC k0 k1 hpl
    go_enter Try.func34, Try.ntmps34
    go_wp2_with (fail)
    refine H.out.2.2.mono ?_
    rintro e W1 ⟨v, rfl, _, h1⟩
    have hkr := H.out.2.1.call h1
    have r0 := hkr.cell' (i := 0) rfl
    have r1 := hkr.cell' (i := 1) rfl
    have f0 := hkr.frozen 0
    have f1 := hkr.frozen 1
    have rl := hkr.lt
    have D := Lib.hid (And.intro (gr_call H.out.1 h1) hkr)
    clear h1 hkr
    go_wp2_with (fail)
    refine bodyPost_ret (v := .tuple #[.agg #[.int .i64 0, .slice none 0 0], .int .i64 E]) (by simp [results, Try.results34, go_sem, r0, r1, rl]) rfl ⟨_, rfl, EdgsAt.nil _, ?_⟩
    exact gr_set (gr_set D.out.1 (by simp) _) (by simp) _
end Go.Proofs.Ytjgkiiohbceocaa
