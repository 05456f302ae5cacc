/-
  The reference's way, level by level: how long its lists are; no program is in sight.
  The reference's Path, walked; conditions: at most 1000000 edges.
-/
import Derived.Test.YtjgkiiohbceocaaSdN
namespace Go.Proofs.Ytjgkiiohbceocaa
set_option linter.unusedVariables false
set_option linter.unusedSimpArgs false

/-- How many of n have a mark. -/
def cntB (f : Nat → Bool) : Nat → Nat
  | 0 => 0
  | n + 1 => cntB f n + (if f n = true then 1 else 0)
theorem cntB_le (f : Nat → Bool) : ∀ n, cntB f n ≤ n
  | 0 => Nat.le_refl _
  | n + 1 => by
    have := cntB_le f n
    unfold cntB
    split <;> omega
theorem cntB_congr {f g : Nat → Bool} : ∀ {n : Nat}, (∀ k, k < n → f k = g k) → cntB f n = cntB g n
  | 0, _ => rfl
  | n + 1, h => by
    unfold cntB
    rw [cntB_congr (fun k hk => h k (by omega)), h n (by omega)]
theorem cntB_upd {f : Nat → Bool} {k : Nat} (h0 : f k = false) : ∀ {n : Nat}, k < n → cntB (upd f k true) n = cntB f n + 1
  | 0, h => absurd h (Nat.not_lt_zero k)
  | n + 1, h => by
    unfold cntB
    by_cases e : k = n
    · subst e
      rw [cntB_congr (g := f) (fun j hj => upd_other _ _ (by omega)), upd_same, h0]
      simp
    · rw [cntB_upd h0 (show k < n by omega), upd_other _ _ (show n ≠ k from fun h => e h.symm)]
      omega
/-- A level has at most as many ways as marks. -/
def LnOk (n : Nat) (s : List (List Nat) × (Nat → Bool)) : Prop := s.1.length ≤ cntB s.2 n
theorem LnOk.step {n : Nat} {E : Nat → Nat → Bool} {a : Nat} {s : List (List Nat) × (Nat → Bool)} (h : LnOk n s) {p : List Nat × Nat} (hp : p.2 < n) : LnOk n (mkS E a s p) := by
  unfold mkS
  split
  · rename_i hc
    rw [Bool.and_eq_true, Bool.not_eq_true'] at hc
    show (s.1 ++ [p.1 ++ [p.2]]).length ≤ cntB (upd s.2 p.2 true) n
    rw [cntB_upd hc.2 hp, List.length_append, List.length_singleton]
    have : s.1.length ≤ cntB s.2 n := h
    omega
  · exact h
theorem LnOk.stepI {n : Nat} {E : Nat → Nat → Bool} {a : Nat} {l : List Nat} {s : List (List Nat) × (Nat → Bool)} (h : LnOk n s) : ∀ {k : Nat}, k ≤ n → LnOk n (mkI E a l s k)
  | 0, _ => h
  | k + 1, hk => LnOk.step (LnOk.stepI h (show k ≤ n by omega)) (show k < n by omega)
/-- A round, as far as way i. -/
def mkT (n : Nat) (E : Nat → Nat → Bool) (a : Nat) (ws : List (List Nat)) (i : Nat) : List (List Nat) × (Nat → Bool) := mkW n E a (ws.take i)
theorem mkT_zero (n : Nat) (E : Nat → Nat → Bool) (a : Nat) (ws : List (List Nat)) : mkT n E a ws 0 = ([], fun _ => false) := by unfold mkT mkW; rw [List.take_zero]; rfl
theorem mkT_step {n : Nat} {E : Nat → Nat → Bool} {a : Nat} {ws : List (List Nat)} {i : Nat} {l : List Nat} (hl : ws[i]? = some l) : mkT n E a ws (i + 1) = mkI E a l (mkT n E a ws i) n := by
  unfold mkT mkW
  rw [List.take_add_one, hl, List.foldl_append]; rfl
theorem mkT_all (n : Nat) (E : Nat → Nat → Bool) (a : Nat) (ws : List (List Nat)) : mkT n E a ws ws.length = mkW n E a ws := by unfold mkT; rw [List.take_length]
theorem mkT_ok {n : Nat} {E : Nat → Nat → Bool} {a : Nat} {ws : List (List Nat)} : ∀ {i : Nat}, i ≤ ws.length → LnOk n (mkT n E a ws i)
  | 0, _ => by rw [mkT_zero]; exact Nat.zero_le _
  | i + 1, h => by
    obtain ⟨l, hl⟩ : ∃ l, ws[i]? = some l := ⟨_, List.getElem?_eq_getElem (show i < ws.length by omega)⟩
    rw [mkT_step hl]
    exact (mkT_ok (by omega)).stepI (Nat.le_refl _)
theorem LnOk.le {n : Nat} {s : List (List Nat) × (Nat → Bool)} (h : LnOk n s) : s.1.length ≤ n := Nat.le_trans h (cntB_le _ _)
/-- The ways of a level have one length. -/
def DpOk (d : Nat) (ws : List (List Nat)) : Prop := ∀ l ∈ ws, l.length = d
theorem DpOk.stepS {E : Nat → Nat → Bool} {a d : Nat} {s : List (List Nat) × (Nat → Bool)} (h : DpOk (d + 1) s.1) {p : List Nat × Nat} (hp : p.1.length = d) : DpOk (d + 1) (mkS E a s p).1 := by
  unfold mkS
  split
  · intro l hl
    rcases List.mem_append.1 hl with hl | hl
    · exact h l hl
    · rw [List.mem_singleton] at hl
      rw [hl, List.length_append, hp]; rfl
  · exact h
theorem DpOk.stepI {E : Nat → Nat → Bool} {a d : Nat} {l : List Nat} (hl : l.length = d) {s : List (List Nat) × (Nat → Bool)} (h : DpOk (d + 1) s.1) : ∀ {k : Nat}, DpOk (d + 1) (mkI E a l s k).1
  | 0 => h
  | k + 1 => DpOk.stepS (DpOk.stepI hl h) hl
theorem mkT_dp {n : Nat} {E : Nat → Nat → Bool} {a d : Nat} {ws : List (List Nat)} (hd : DpOk d ws) : ∀ {i : Nat}, i ≤ ws.length → DpOk (d + 1) (mkT n E a ws i).1
  | 0, _ => by rw [mkT_zero]; intro l hl; cases hl
  | i + 1, h => by
    obtain ⟨l, hl⟩ : ∃ l, ws[i]? = some l := ⟨_, List.getElem?_eq_getElem (show i < ws.length by omega)⟩
    rw [mkT_step hl]
    exact DpOk.stepI (hd l (List.mem_of_getElem? hl)) (mkT_dp hd (by omega))
/-- The last ones are nodes. -/
def LsOk (n a : Nat) (ws : List (List Nat)) : Prop := ∀ l ∈ ws, lastOf a l < n
theorem LsOk.stepS {n : Nat} {E : Nat → Nat → Bool} {a : Nat} {s : List (List Nat) × (Nat → Bool)} (h : LsOk n a s.1) {p : List Nat × Nat} (hp : p.2 < n) : LsOk n a (mkS E a s p).1 := by
  unfold mkS
  split
  · intro l hl
    rcases List.mem_append.1 hl with hl | hl
    · exact h l hl
    · rw [List.mem_singleton] at hl
      rw [hl, lastOf_snoc]; exact hp
  · exact h
theorem LsOk.stepI {n : Nat} {E : Nat → Nat → Bool} {a : Nat} {l : List Nat} {s : List (List Nat) × (Nat → Bool)} (h : LsOk n a s.1) : ∀ {k : Nat}, k ≤ n → LsOk n a (mkI E a l s k).1
  | 0, _ => h
  | k + 1, hk => LsOk.stepS (LsOk.stepI h (show k ≤ n by omega)) (show k < n by omega)
theorem mkT_ls {n : Nat} {E : Nat → Nat → Bool} {a : Nat} {ws : List (List Nat)} : ∀ {i : Nat}, i ≤ ws.length → LsOk n a (mkT n E a ws i).1
  | 0, _ => by rw [mkT_zero]; intro l hl; cases hl
  | i + 1, h => by
    obtain ⟨l, hl⟩ : ∃ l, ws[i]? = some l := ⟨_, List.getElem?_eq_getElem (show i < ws.length by omega)⟩
    rw [mkT_step hl]
    exact LsOk.stepI (mkT_ls (by omega)) (Nat.le_refl _)
end Go.Proofs.Ytjgkiiohbceocaa
namespace Go.Proofs.Ytjgkiiohbceocaa
open Go.RowKit
set_option linter.unusedVariables false
set_option linter.unusedSimpArgs false

theorem zero_mrk : (#[Value.bool false, Value.bool false, Value.bool false, Value.bool false, Value.bool false, Value.bool false, Value.bool false, Value.bool false, Value.bool false, Value.bool false, Value.bool false, Value.bool false, Value.bool false, Value.bool false, Value.bool false, Value.bool false, Value.bool false, Value.bool false, Value.bool false, Value.bool false, Value.bool false, Value.bool false, Value.bool false, Value.bool false, Value.bool false, Value.bool false, Value.bool false, Value.bool false, Value.bool false, Value.bool false, Value.bool false, Value.bool false, Value.bool false, Value.bool false, Value.bool false, Value.bool false, Value.bool false, Value.bool false, Value.bool false, Value.bool false, Value.bool false, Value.bool false, Value.bool false, Value.bool false, Value.bool false, Value.bool false, Value.bool false, Value.bool false, Value.bool false, Value.bool false, Value.bool false, Value.bool false, Value.bool false, Value.bool false, Value.bool false, Value.bool false, Value.bool false, Value.bool false, Value.bool false, Value.bool false, Value.bool false, Value.bool false, Value.bool false, Value.bool false] : Array Value) = mrkC (fun _ => false) := by rfl
def consL (a : Nat) (ws : List (List Nat)) : List (List Nat) := ws.map fun l => a :: l
theorem consL_len (a : Nat) (ws : List (List Nat)) : (consL a ws).length = ws.length := by simp [consL]
theorem consL_at {a i : Nat} {ws : List (List Nat)} {l : List Nat} (h : ws[i]? = some l) : (consL a ws)[i]? = some (a :: l) := by unfold consL; rw [List.getElem?_map, h]; rfl
theorem consL_snoc (a : Nat) (ws : List (List Nat)) (l : List Nat) : consL a (ws ++ [l]) = consL a ws ++ [a :: l] := by simp [consL]
def rpE : Option (List Nat) → Int
  | some _ => 0
  | none => 3
def rpV (a : Nat) : Option (List Nat) → List Nat
  | some q => a :: q
  | none => []
theorem mrk_set {f : Nat → Bool} {k : Nat} (hk : k < 64) : (mrkC f).setIfInBounds k (.bool true) = mrkC (upd f k true) :=
  vecC_set hk (by rw [upd_same]) (fun j _ hj => by rw [upd_other _ _ hj])
theorem hit_find {p : List Nat → Bool} {M : List (List Nat)} {j : Nat} {l : List Nat} (h : M[j]? = some l) (h1 : p l = true) (h2 : ∀ (k : Nat) (x : List Nat), k < j → M[k]? = some x → p x = false) : M.find? p = some l := by
  obtain ⟨hj, rfl⟩ := List.getElem?_eq_some_iff.1 h
  rw [List.find?_eq_some_iff_getElem]
  refine ⟨h1, j, hj, rfl, fun k hk => ?_⟩
  rw [h2 k _ hk (List.getElem?_eq_getElem (by omega))]; rfl
theorem none_find {p : List Nat → Bool} {M : List (List Nat)} (h : ∀ (k : Nat) (x : List Nat), M[k]? = some x → p x = false) : M.find? p = none := by
  rw [List.find?_eq_none]
  intro x hx
  obtain ⟨k, hk, rfl⟩ := List.getElem_of_mem hx
  rw [h k _ (List.getElem?_eq_getElem hk)]; decide
/-- What the two inner loops have in memory. -/
structure MoreOk (W : World) (B gS a : Nat) (v : Value) (s : List (List Nat) × (Nat → Bool)) : Prop where
  row : OwnLL W B v (consL a s.1)
  seen : Blk W gS 71 (mrkC s.2)

set_option maxRecDepth 100000 in
set_option maxHeartbeats 8000000 in
theorem rpath_ok (m : Nat) (hm : m ≤ 64) (l : List Edg) (hl : l.length ≤ 1000000) (hv : ∀ e ∈ l, okEd m e) (he : (chkG m l).1 = 0) (a b : Nat) (ha : a < m) (hb : b < m) (A : Option Addr) (c : Nat) (w : World) (hA : Cells w A 2 l.length (edAt l)) :
    Calls Try.prog 16 #[.agg #[.int .i64 (m : Int), .slice A l.length c], .int .i64 (a : Int), .int .i64 (b : Int)] w fun e w' => ∃ v, e = .returned (.tuple #[v, .int .i64 (rpE (rpF m (relE l) a b m [[]]))]) ∧ NatsAt w' v (rpV a (rpF m (relE l) a b m [[]])) ∧ Below w.heap.size w w' := by
  have b0 := gr_alloc (Below.refl w.heap.size w) (.cells #[.int .i64 (m : Int), .slice A l.length c] 24)
  have k0 := Blk.new w 24 #[.int .i64 (m : Int), .slice A l.length c]
  have hA0 := hA.below b0
  have hra := fun W hW => reach_ref (m : Int) l (a : Int) hl A c W hW
  have hrb := fun W hW => reach_ref (m : Int) l (b : Int) hl A c W hW
  have hE1 : eReach (m : Int) l (a : Int) = 0 := by unfold eReach; rw [if_pos he, if_pos ⟨by omega, by omega⟩]
  have hE2 : eReach (m : Int) l (b : Int) = 0 := by unfold eReach; rw [if_pos he, if_pos ⟨by omega, by omega⟩]
  rw [hE1] at hra
  rw [hE2] at hrb
  have hdi := fun W hW => direct_ref m hm l hl hv A c W hW
  obtain ⟨V1, hV1⟩ : ∃ V1, V1 = vReach (m : Int) l (a : Int) := ⟨_, rfl⟩
  obtain ⟨V2, hV2⟩ : ∃ V2, V2 = vReach (m : Int) l (b : Int) := ⟨_, rfl⟩
  rw [← hV1] at hra
  rw [← hV2] at hrb
  obtain ⟨E, hE⟩ : ∃ E, E = relE l := ⟨_, rfl⟩
  rw [← hE] at hdi ⊢
  obtain ⟨ct, hct⟩ : ∃ ct, ct = tabC E := ⟨_, rfl⟩
  rw [← hct] at hdi
  have hcz : ct.size = 4096 := by rw [hct, tabC_size]
  have hone : ct.all (·.oneCell') = true := by rw [hct]; exact tabC_one _
  have hi2 : (Try.prog.info? 73).map (·.size) = some ct.size := by rw [hcz]; exact infoTab
  obtain ⟨R, hR⟩ : ∃ R, R = rpF m E a b m [[]] := ⟨_, rfl⟩
  rw [← hR]
  obtain ⟨ln, hln⟩ : ∃ ln, ln = l.length := ⟨_, rfl⟩
  rw [← hln] at hra hrb hdi hA0 b0 k0 ⊢
  have H := Lib.hid (And.intro b0 (And.intro k0 (And.intro hA0 (And.intro hra (And.intro hrb (And.intro hdi (And.intro hct hR)))))))
  have ha6 : a < 64 := by omega
  have hb6 : b < 64 := by omega
  clear b0 k0 hA0 hA hra hrb hdi hct hR hE1 hE2 hV1 hV2 hE hln hl he hv
  go_enter Try.func16, Try.ntmps16
  go_wp2_with (fail)
  refine (H.out.2.2.2.1 _ H.out.2.2.1).mono ?_
  rintro e W1 ⟨v1, rfl, _, h1⟩
  have D := Lib.hid (And.intro (gr_call H.out.1 h1) (And.intro (H.out.2.1.call h1) (H.out.2.2.1.below h1)))
  have r0 := D.out.2.1.cell' (i := 0) rfl
  have r1 := D.out.2.1.cell' (i := 1) rfl
  have rl := D.out.2.1.lt
  clear h1
  go_wp2_with (fail)
  refine (H.out.2.2.2.2.1 _ D.out.2.2).mono ?_
  rintro e W2 ⟨v2, rfl, _, h2⟩
  have D2 := Lib.hid (And.intro (gr_call D.out.1 h2) (And.intro (D.out.2.1.call h2) (D.out.2.2.below h2)))
  clear h2 r0 r1 rl D
  have r0 := D2.out.2.1.cell' (i := 0) rfl
  have r1 := D2.out.2.1.cell' (i := 1) rfl
  have rl := D2.out.2.1.lt
  go_wp2_with (fail)
  refine (H.out.2.2.2.2.2.1 _ D2.out.2.2).mono ?_
  rintro e W3 ⟨rfl, h3⟩
  obtain ⟨wx, hwx, kx, bx⟩ := tab_stored W3 ct hcz
  have thr := tab_there W3 ct hcz
  have kk := (D2.out.2.1.call h3).call bx
  have hbw := gr_call (gr_call D2.out.1 h3) bx
  have h1a := gr_alloc (gr_alloc (Below.refl wx.heap.size wx) (.cells #[.int .i64 (a : Int)] 3)) (.cells #[.slice (some ⟨wx.heap.size, 0, none⟩) 1 1] 25)
  have hll : LLAt ((wx.alloc (.cells #[.int .i64 (a : Int)] 3)).alloc (.cells #[.slice (some ⟨wx.heap.size, 0, none⟩) 1 1] 25)) (.slice (some ⟨wx.heap.size + 1, 0, none⟩) 1 1) (consL a [[]]) := by
    refine ll_lit (blk_at (by simp)) rfl (fun j l hj => ?_)
    have hj1 : j < 1 := (List.getElem?_eq_some_iff.1 hj).1
    obtain rfl : j = 0 := by omega
    cases hj
    exact ⟨_, rfl, nats_lit ((Blk.new wx 3 #[.int .i64 (a : Int)]).alloc _) rfl rfl⟩
  have F := Lib.hid (And.intro hbw (And.intro kx (And.intro kk (And.intro h1a hll))))
  clear h3 kk bx kx hbw h1a hll r0 r1 rl D2
  go_wp2_with (refine wpList_store_mid rfl 73 _ _ rfl W3.heap.size 0 ct rfl rfl thr hi2 hone ?_; rw [hwx]; clear thr hi2 hone hwx)
  go_loopg [12, 11] m (fun q nv wv wr => ∃ (d : Nat) (ws : List (List Nat)), q = m - d ∧ d ≤ m ∧ nv = .int .i64 (d : Int) ∧ Below wx.heap.size wx wr ∧ LLAt wr wv (consL a ws) ∧ R = rpF m E a b (m - d) ws ∧ DpOk d ws ∧ LsOk m a ws ∧ ws.length ≤ 64)
  case atStart =>
    refine ⟨0, [[]], rfl, Nat.zero_le _, rfl, F.out.2.2.2.1, F.out.2.2.2.2, H.out.2.2.2.2.2.2.2, ?_, ?_, by decide⟩
    · intro l hl; rw [List.mem_singleton] at hl; subst hl; rfl
    · intro l hl; rw [List.mem_singleton] at hl; subst hl; exact ha
  case round =>
    obtain ⟨d, ws, hq, hd, rfl, hbel, hll, hR, hdp, hls, hwl⟩ := hrel
    have kk := F.out.2.2.1.call hbel
    have s0 := kk.cell' (i := 0) rfl
    have sl := kk.lt
    by_cases hdm : d < m
    · rename World => w0
      have hd' : (d : Int) < (m : Int) := by omega
      obtain ⟨wA, wc, rfl, hex⟩ := hll.ex
      obtain ⟨nw, hnw⟩ : ∃ x, x = ws.length := ⟨_, rfl⟩
      rw [consL_len, ← hnw]
      rw [consL_len, ← hnw] at hll
      have hwl' : nw ≤ 64 := by omega
      have bS := gr_alloc hbel (.cells (mrkC fun _ => false) 71)
      have kS := Blk.new w0 71 (mrkC fun _ => false)
      obtain ⟨Y, hY⟩ : ∃ Y, w0.alloc (.cells (mrkC fun _ => false) 71) = Y := ⟨_, rfl⟩
      rw [hY] at bS kS
      have hYs : w0.heap.size < Y.heap.size := kS.lt
      have bY : Below w0.heap.size w0 Y := by rw [← hY]; exact gr_alloc (Below.refl _ _) _
      have B := Lib.hid (And.intro hq (And.intro hbel (And.intro hll (And.intro hR (And.intro hdp (And.intro hls (And.intro hnw (And.intro bS (And.intro kS (And.intro bY hex))))))))))
      clear hq hbel hll hR hdp hls hnw bS kS bY hex kk hwl
      go_wp2_with (fail)
      rw [zero_mrk, hY]
      clear hY
      go_loopg [15, 13] nw (fun q iv mv wr' => ∃ i : Nat, q = nw - i ∧ i ≤ nw ∧ iv = .int .i64 (i : Int) ∧ BelowX Y.heap.size w0.heap.size Y wr' ∧ MoreOk wr' Y.heap.size w0.heap.size a mv (mkT m E a ws i))
      case atStart =>
        refine ⟨0, rfl, Nat.zero_le _, rfl, ⟨rfl, rfl, rfl, Nat.le_refl _, fun _ _ _ => rfl⟩, ?_, ?_⟩
        · rw [mkT_zero]; exact OwnLL.nil _ _
        · rw [mkT_zero]; exact B.out.2.2.2.2.2.2.2.2.1
      case round =>
        obtain ⟨i, hq, hi, rfl, hbx, hmo⟩ := hrel
        have hb0 : Below w0.heap.size w0 wr := B.out.2.2.2.2.2.2.2.2.2.1.trans (hbx.below (Nat.le_of_lt hYs) (Nat.le_refl _))
        by_cases hin : i < nw
        · have hi' : (i : Int) < (nw : Int) := by omega
          obtain ⟨l, hl⟩ : ∃ l, ws[i]? = some l := ⟨_, List.getElem?_eq_getElem (by rw [← B.out.2.2.2.2.2.2.1]; exact hin)⟩
          have hcl := consL_at (a := a) hl
          obtain ⟨gw, hgw, hgl, hcells⟩ := B.out.2.2.2.2.2.2.2.2.2.2 (fun e => by rw [e] at hcl; cases hcl)
          obtain ⟨u, hcu, hu⟩ := hcells i _ hcl
          obtain ⟨uA, uc, hue, hux⟩ := hu.ex
          obtain ⟨gu, ou, huA, hul, hucc⟩ := hux (by simp)
          obtain ⟨nl, hnl⟩ : ∃ x, x = l.length := ⟨_, rfl⟩
          obtain ⟨nu, hnu⟩ : ∃ x, x = nl + 1 := ⟨_, rfl⟩
          rw [List.length_cons, ← hnl, ← hnu] at hue
          subst huA hue hgw
          have hnl64 : nl ≤ 64 := by have := B.out.2.2.2.2.1 l (List.mem_of_getElem? hl); omega
          have hlast := hucc _ _ (last_cons a l)
          rw [← hnl] at hlast
          have hlm := B.out.2.2.2.2.2.1 l (List.mem_of_getElem? hl)
          obtain ⟨la, hla⟩ : ∃ la, la = lastOf a l := ⟨_, rfl⟩
          rw [← hla] at hlast hlm
          have cu := (hb0.cell (p := ⟨gw, i, none⟩) hgl).trans hcu
          have cl := (hb0.cell (p := ⟨gu, ou + nl, none⟩) hul).trans hlast
          have gl := Nat.lt_of_lt_of_le hgl hb0.size
          have ul := Nat.lt_of_lt_of_le hul hb0.size
          have wnu : IntKind.i64.wrap ((nu : Int) - 1) = (nl : Int) := (IntWalk.i64_in _ (by omega)).trans (by omega)
          have hnn : (nl : Int) < (nu : Int) := by omega
          have C := Lib.hid (And.intro hq (And.intro hbx (And.intro hmo (And.intro hl (And.intro hcu (And.intro hu (And.intro hnl (And.intro hnu hla))))))))
          clear hq hbx hmo hl hcl hcells hcu hu hux hucc hnl hnu hla hlast hb0
          go_wp2_with (fail)
          go_region
          go_wp2_with (fail)
          go_loopg [17, 13] m (fun q kv mv wr' => ∃ k : Nat, q = m - k ∧ k ≤ m ∧ kv = .int .i64 (k : Int) ∧ BelowX Y.heap.size w0.heap.size Y wr' ∧ MoreOk wr' Y.heap.size w0.heap.size a mv (mkI E a l (mkT m E a ws i) k))
          case atStart => exact ⟨0, rfl, Nat.zero_le _, rfl, C.out.2.1.drewN 1, C.out.2.2.1.row.below (gr_drew (Below.refl _ _)), C.out.2.2.1.seen.drew⟩
          case round =>
            obtain ⟨k, hq, hk, rfl, hbx, hmo⟩ := hrel
            have hb0 : Below w0.heap.size w0 wr := B.out.2.2.2.2.2.2.2.2.2.1.trans (hbx.below (Nat.le_of_lt hYs) (Nat.le_refl _))
            have kk := (F.out.2.2.1.call B.out.2.1).call hb0
            have s0 := kk.cell' (i := 0) rfl
            have sl := kk.lt
            by_cases hkm : k < m
            · have hk' : (k : Int) < (m : Int) := by omega
              have hk6 : k < 64 := by omega
              have hk8 : (k : Int) < 64 := by omega
              have hl6 : la < 64 := by omega
              have hl8 : (la : Int) < 64 := by omega
              have kt := (F.out.2.1.call B.out.2.1).call hb0
              rw [H.out.2.2.2.2.2.2.1] at kt
              have ctt := kt.cell' (tabC_at E hl6 hk6)
              have tl := kt.lt
              have css := hmo.seen.cell' (vecC_at (fun k' => .bool ((mkI E a l (mkT m E a ws i) k).2 k')) hk6)
              have ssl := hmo.seen.lt
              have ssf := hmo.seen.frozen k
              have hst : mkI E a l (mkT m E a ws i) (k + 1) = if (E la k && !(mkI E a l (mkT m E a ws i) k).2 k) = true then ((mkI E a l (mkT m E a ws i) k).1 ++ [l ++ [k]], upd (mkI E a l (mkT m E a ws i) k).2 k true) else mkI E a l (mkT m E a ws i) k := by rw [C.out.2.2.2.2.2.2.2.2]; rfl
              have hln := ((mkT_ok (n := m) (E := E) (a := a) (ws := ws) (i := i) (by have := B.out.2.2.2.2.2.2.1; omega)).stepI (E := E) (a := a) (l := l) hk).le
              obtain ⟨s, hs⟩ : ∃ s, s = mkI E a l (mkT m E a ws i) k := ⟨_, rfl⟩
              rw [← hs] at hmo hst hln css
              cases he : E la k with
              | false =>
                rw [he] at ctt
                rw [he, Bool.false_and, if_neg (by decide)] at hst
                have G := Lib.hid (And.intro hq (And.intro hbx (And.intro hmo (And.intro hst hb0))))
                clear hq hbx hmo hst hb0 kk kt he hs hln
                go_wp2_with (fail)
                go_roundg (m - (k + 1))
                case measure => have := G.out.1; omega
                case rel => exact ⟨k + 1, rfl, hkm, by simp, G.out.2.1, by rw [G.out.2.2.2.1]; exact G.out.2.2.1⟩
              | true =>
                rw [he] at ctt
                cases hss : s.2 k with
                | true =>
                  rw [hss] at css
                  rw [he, hss, Bool.not_true, Bool.and_false, if_neg (by decide)] at hst
                  have G := Lib.hid (And.intro hq (And.intro hbx (And.intro hmo (And.intro hst hb0))))
                  clear hq hbx hmo hst hb0 kk kt he hs hln hss
                  go_wp2_with (fail)
                  go_roundg (m - (k + 1))
                  case measure => have := G.out.1; omega
                  case rel => exact ⟨k + 1, rfl, hkm, by simp, G.out.2.1, by rw [G.out.2.2.2.1]; exact G.out.2.2.1⟩
                | false =>
                  rw [hss] at css
                  rw [he, hss, Bool.not_false, Bool.and_self, if_pos rfl] at hst
                  have hgw0 : w0.heap.size ≠ gw := by omega
                  have cuS : (wr.setCell ⟨w0.heap.size, k, none⟩ (.bool true)).cell? ⟨gw, i, none⟩ = some (.slice (some ⟨gu, ou, none⟩) nu uc) := by
                    rw [World.cell?_setCell_far _ _ _ _ hgw0]
                    exact (hb0.cell (p := ⟨gw, i, none⟩) hgl).trans C.out.2.2.2.2.1
                  have glS : gw < (wr.setCell ⟨w0.heap.size, k, none⟩ (.bool true)).heap.size := by simpa using Nat.lt_of_lt_of_le hgl hb0.size
                  have cuA : ((wr.setCell ⟨w0.heap.size, k, none⟩ (.bool true)).alloc (.cells #[] 3)).cell? ⟨gw, i, none⟩ = some (.slice (some ⟨gu, ou, none⟩) nu uc) := (World.cell?_alloc_lt _ _ _ glS).trans cuS
                  have hrow : OwnLL (wr.setCell ⟨w0.heap.size, k, none⟩ (.bool true)) Y.heap.size u13 (consL a s.1) := hmo.row.keep (fun q t cs hq hb _ => hb.far (p := ⟨w0.heap.size, k, none⟩) (by show q ≠ w0.heap.size; omega) _)
                  have hseen := hmo.seen.set_ k (.bool true)
                  rw [mrk_set hk6] at hseen
                  have hbx2 := hbx.setCell (p := ⟨w0.heap.size, k, none⟩) (.inl rfl) (.bool true)
                  have hu2 : NatsAt (wr.setCell ⟨w0.heap.size, k, none⟩ (.bool true)) (.slice (some ⟨gu, ou, none⟩) nu uc) (a :: l) := C.out.2.2.2.2.2.1.below (B.out.2.2.2.2.2.2.2.2.2.1.trans (hbx2.below (Nat.le_of_lt hYs) (Nat.le_refl _)))
                  have hsz2 : (wr.setCell ⟨w0.heap.size, k, none⟩ (.bool true)).heap.size = wr.heap.size := by simp
                  obtain ⟨X2, hX2⟩ : ∃ X2, wr.setCell ⟨w0.heap.size, k, none⟩ (.bool true) = X2 := ⟨_, rfl⟩
                  rw [hX2] at hrow hseen hbx2 hu2 hsz2
                  have hYX : Y.heap.size ≤ X2.heap.size := hbx2.size
                  have hown0 : OwnN (X2.alloc (.cells #[] 3)) X2.heap.size (.slice (some ⟨wr.heap.size, 0, none⟩) 0 0) [] := by
                    rw [← hsz2]
                    exact made_owns (W := X2) (cs := #[]) (Nat.le_refl _) rfl (Nat.zero_le _)
                  have hu3 := hu2.below (gr_alloc (Below.refl X2.heap.size X2) (.cells #[] 3))
                  have G := Lib.hid (And.intro hq (And.intro hst (And.intro hrow (And.intro hseen (And.intro hbx2 (And.intro hu3 (And.intro hsz2 (And.intro hln hown0))))))))
                  clear hown0 hu3
                  clear hq hbx hmo hst hb0 kk kt he hs hln hss hrow hseen hbx2 hu2 hsz2 hgw0
                  have HX := Lib.hid hX2
                  clear hX2
                  go_wp2_with (at_builtin; rw [HX.out]; refine app_nats rfl _ _ rfl X2.heap.size _ [] (a :: l) rfl G.out.2.2.2.2.2.2.2.2 _ rfl G.out.2.2.2.2.2.1 (by simp) (by rw [List.length_nil, List.length_cons, ← C.out.2.2.2.2.2.2.1]; omega) (by simp) ?_)
                  intro va Z1 hva hg1
                  have hZ1 : Below X2.heap.size X2 Z1 := (gr_alloc (Below.refl X2.heap.size X2) (.cells #[] 3)).grown hg1 (by simp) (fun q hq => by simp only [Value.ownBlock, Option.some.injEq] at hq; have := G.out.2.2.2.2.2.2.1; omega)
                  have hZa := gr_alloc hZ1 (.cells #[.int .i64 (k : Int)] 3)
                  have hva2 := own_below hva (gr_alloc (Below.refl Z1.heap.size Z1) (.cells #[.int .i64 (k : Int)] 3)) (Nat.le_refl _)
                  have hck : (Z1.alloc (.cells #[.int .i64 (k : Int)] 3)).cell? ⟨Z1.heap.size, 0, none⟩ = some (.int .i64 (k : Int)) := (Blk.new Z1 3 #[.int .i64 (k : Int)]).cell' rfl
                  have P := Lib.hid (And.intro hZ1 (And.intro hZa (And.intro hva2 hck)))
                  have hZs := hZ1.size
                  clear hva hg1 hZ1 hZa hva2 hck HX
                  go_wp2_with (at_builtin; refine app_one rfl _ _ (t := 25) rfl X2.heap.size Try.underlying25 infoInt rfl (by decide) _ _ _ rfl P.out.2.2.1 Z1.heap.size (.int .i64 (k : Int)) rfl P.out.2.2.2 rfl (by rw [List.length_cons, ← C.out.2.2.2.2.2.2.1]; omega) (by simp; omega) ?_)
                  intro vb Z2 hvb hg2 _
                  have hvb2 : OwnN Z2 X2.heap.size vb (a :: (l ++ [k])) := by
                    show OwnN Z2 X2.heap.size vb ((a :: l) ++ [k])
                    unfold OwnN
                    rw [natC_snoc, List.length_append]
                    exact hvb
                  have hZ2 : Below X2.heap.size X2 Z2 := P.out.2.1.grown hg2 (by simp; omega) (fun q hq => (P.out.2.2.1.lt q hq).1)
                  have hZ2s := hZ2.size
                  have hrow := G.out.2.2.1.below hZ2
                  obtain ⟨vs, ho1, ho2⟩ := hrow
                  rw [consL_len] at ho1
                  obtain ⟨ba, bc, hvbe⟩ := own_slice hvb2
                  obtain ⟨bl, hbl⟩ : ∃ bl, vb = .slice ba bl bc := ⟨_, hvbe⟩
                  clear hvbe
                  subst hbl
                  have al := gr_alloc (Below.refl Z2.heap.size Z2) (.cells #[.slice ba bl bc] 25)
                  have hc2 : (Z2.alloc (.cells #[.slice ba bl bc] 25)).cell? ⟨Z2.heap.size, 0, none⟩ = some (.slice ba bl bc) := (Blk.new Z2 25 #[.slice ba bl bc]).cell' rfl
                  have hsn := (G.out.2.2.2.1.call hZ2).alloc (.cells #[.slice ba bl bc] 25)
                  have hbx3 := (G.out.2.2.2.2.1.trans (BelowX.of_below (hZ2.mono hYX) w0.heap.size)).alloc (Nat.le_trans hYX hZ2s) (.cells #[.slice ba bl bc] 25)
                  have Q := Lib.hid (And.intro (own_below ho1 al (Nat.le_refl _)) (And.intro (own_below hvb2 al (Nat.le_refl _)) (And.intro (ho2.keep (W' := Z2.alloc (.cells #[.slice ba bl bc] 25)) (fun q cs _ hq => hq.alloc _)) (And.intro hsn (And.intro hbx3 hc2)))))
                  clear hvb hg2 hvb2 hZ2 ho1 ho2 al hc2 hsn hbx3
                  have hsl : s.1.length ≤ 1000000 := by have := G.out.2.2.2.2.2.2.2.1; omega
                  go_wp2_with (at_builtin; refine app_one rfl _ _ (t := 41) rfl Y.heap.size Try.underlying41 infoInts rfl (by decide) _ _ _ rfl Q.out.1 Z2.heap.size (.slice ba bl bc) rfl Q.out.2.2.2.2.2 rfl hsl (by simp; omega) ?_)
                  intro v' w2 hown' hgrow _
                  have hkeep : ∀ q t cs, Blk (Z2.alloc (.cells #[.slice ba bl bc] 25)) q t cs → t ≠ 25 → Blk w2 q t cs := fun q t cs hq ht => hq.grown hgrow (own_blk_ne Q.out.1 hq (fun e => ht e.symm))
                  have hmo' : MoreOk w2 Y.heap.size w0.heap.size a v' (s.1 ++ [l ++ [k]], upd s.2 k true) := by
                    refine ⟨?_, hkeep _ _ _ Q.out.2.2.2.1 (by decide)⟩
                    show OwnLL w2 Y.heap.size v' (consL a (s.1 ++ [l ++ [k]]))
                    rw [consL_snoc]
                    refine ⟨vs ++ [.slice ba bl bc], ?_, InnN.snoc ?_ (Q.out.2.2.1.keep (fun q cs _ hq => hkeep _ _ _ hq (by decide)))⟩
                    · rw [List.length_append, consL_len]
                      exact hown'
                    · exact own_weaken (own_blks Q.out.2.1 (fun q cs _ hq => hkeep _ _ _ hq (by decide))) hYX
                  have hbx4 := Q.out.2.2.2.2.1.grown hgrow (by simp; omega) (fun q hq => (Q.out.1.lt q hq).1)
                  have U := Lib.hid (And.intro hmo' hbx4)
                  clear hmo' hbx4 hown' hgrow hkeep
                  go_wp2_with (fail)
                  go_roundg (m - (k + 1))
                  case measure => have := G.out.1; omega
                  case rel => exact ⟨k + 1, rfl, hkm, by simp, U.out.2, by rw [G.out.2.1]; exact U.out.1⟩
            · have ek : k = m := by omega
              subst k
              have G := Lib.hid (And.intro hbx (And.intro hmo hq))
              clear hbx hmo hq kk hkm hb0
              go_wp2_with (fail)
              go_roundg (nw - (i + 1))
              case measure => have := C.out.1; omega
              case rel => exact ⟨i + 1, rfl, hin, by simp, G.out.1, by rw [mkT_step C.out.2.2.2.1]; exact G.out.2.1⟩
        · have ei : i = nw := by omega
          subst i
          have hnw := B.out.2.2.2.2.2.2.1
          obtain ⟨M, hM⟩ : ∃ M, M = (mkW m E a ws).1 := ⟨_, rfl⟩
          have hrow := hmo.row
          have hMt : (mkT m E a ws nw).1 = M := by rw [hnw, mkT_all, hM]
          rw [hMt] at hrow
          have hML : M.length ≤ 64 := by
            have := (mkT_ok (n := m) (E := E) (a := a) (ws := ws) (i := nw) (by omega)).le
            rw [hMt] at this; omega
          have hMd : DpOk (d + 1) M := by rw [← hMt]; exact mkT_dp B.out.2.2.2.2.1 (by omega)
          have hMs : LsOk m a M := by rw [← hMt]; exact mkT_ls (by omega)
          have hRM : R = (match M.find? fun l => decide (lastOf a l = b) with | some l => some l | none => rpF m E a b (m - (d + 1)) M) := by
            have h1 := B.out.2.2.2.1
            obtain ⟨f, hf⟩ : ∃ f, m - d = f + 1 := ⟨m - d - 1, by omega⟩
            rw [hf] at h1
            rw [h1, hM, show m - (d + 1) = f by omega]; rfl
          have hll := hrow.at_
          obtain ⟨mA, mc, hmv, hmx⟩ := hll.ex
          obtain ⟨nm, hnm⟩ : ∃ x, x = M.length := ⟨_, rfl⟩
          rw [consL_len, ← hnm] at hmv
          rw [hmv] at hll
          subst hmv
          have hnm64 : nm ≤ 64 := by omega
          rename World => wm
          have K := Lib.hid (And.intro (gr_call B.out.2.1 hb0) (And.intro hll (And.intro hRM (And.intro hMd (And.intro hMs (And.intro hmx hnm))))))
          clear hrow hMt hRM hMd hMs hll hmx hmo hbx hq hM hb0 hnm hnw hML hin hi
          go_wp2_with (fail)
          go_loopg [18] nm (fun q jv wr' => ∃ j : Nat, q = nm - j ∧ j ≤ nm ∧ jv = .int .i64 (j : Int) ∧ Below wm.heap.size wm wr' ∧ ∀ (k : Nat) (l : List Nat), k < j → M[k]? = some l → lastOf a l ≠ b)
          case atStart => exact ⟨0, rfl, Nat.zero_le _, rfl, Below.refl _ _, fun k l hk _ => absurd hk (Nat.not_lt_zero k)⟩
          case round =>
            obtain ⟨j, hq, hj, rfl, hbz, hno⟩ := hrel
            by_cases hjn : j < nm
            · have hj' : (j : Int) < (nm : Int) := by omega
              obtain ⟨l, hl⟩ : ∃ l, M[j]? = some l := ⟨_, List.getElem?_eq_getElem (by rw [← K.out.2.2.2.2.2.2]; exact hjn)⟩
              have hcl := consL_at (a := a) hl
              obtain ⟨gm, hgm, hgml, hmcells⟩ := K.out.2.2.2.2.2.1 (fun e => by rw [e] at hcl; cases hcl)
              obtain ⟨u, hcu, hu⟩ := hmcells j _ hcl
              obtain ⟨uA, uc, hue, hux⟩ := hu.ex
              obtain ⟨gu, ou, huA, hul, hucc⟩ := hux (by simp)
              obtain ⟨nl, hnl⟩ : ∃ x, x = l.length := ⟨_, rfl⟩
              obtain ⟨nu, hnu⟩ : ∃ x, x = nl + 1 := ⟨_, rfl⟩
              rw [List.length_cons, ← hnl, ← hnu] at hue
              subst huA hue hgm
              have hnl65 : nl ≤ 65 := by have := K.out.2.2.2.1 l (List.mem_of_getElem? hl); omega
              have hlast := hucc _ _ (last_cons a l)
              rw [← hnl] at hlast
              obtain ⟨la, hla⟩ : ∃ la, la = lastOf a l := ⟨_, rfl⟩
              rw [← hla] at hlast
              have cu := (hbz.cell (p := ⟨gm, j, none⟩) hgml).trans hcu
              have cl := (hbz.cell (p := ⟨gu, ou + nl, none⟩) hul).trans hlast
              have gl := Nat.lt_of_lt_of_le hgml hbz.size
              have ul := Nat.lt_of_lt_of_le hul hbz.size
              have wnu : IntKind.i64.wrap ((nu : Int) - 1) = (nl : Int) := (IntWalk.i64_in _ (by omega)).trans (by omega)
              have hnn : (nl : Int) < (nu : Int) := by omega
              have hRs : la = b → R = some l := fun e => by
                rw [K.out.2.2.1, hit_find hl (by rw [← hla, e]; exact decide_eq_true rfl) (fun k x hk hx => decide_eq_false (hno k x hk hx))]
              have hno2 : la ≠ b → ∀ (k : Nat) (l : List Nat), k < j + 1 → M[k]? = some l → lastOf a l ≠ b := fun e k x hk hx => by
                by_cases hkj : k = j
                · subst hkj; rw [hl] at hx; cases hx; rw [← hla]; exact e
                · exact hno k x (by omega) hx
              by_cases hab : la = b
              · have C := Lib.hid (And.intro (gr_drew hbz) (And.intro hu (And.intro hbz (hRs hab))))
                clear hq hbz hno hl hcl hmcells hcu hu hux hucc hnl hnu hlast hRs hno2
                subst hab
                clear hla
                go_wp2_with (fail)
                go_region
                go_wp2_with (fail)
                go_ret2
                exact ⟨_, by rw [C.out.2.2.2]; rfl, by rw [C.out.2.2.2]; exact (C.out.2.1.below C.out.2.2.1).below (below_drewN (Below.refl _ _) 1), gr_call F.out.1 (gr_call K.out.1 C.out.1)⟩
              · have C := Lib.hid (And.intro hq (And.intro hbz (And.intro hu (hno2 hab))))
                clear hq hbz hno hl hcl hmcells hcu hu hux hucc hnl hnu hla hlast hRs hno2
                have hab' : ¬ ((la : Int) = (b : Int)) := by omega
                have hab2 : decide ((la : Int) = (b : Int)) = false := decide_eq_false hab'
                go_wp2_with (fail)
                go_region
                go_wp2_with (fail)
                go_roundg (nm - (j + 1))
                case measure => have := C.out.1; omega
                case rel => exact ⟨j + 1, rfl, hjn, by simp, gr_drew C.out.2.1, C.out.2.2.2⟩
            · have ej : j = nm := by omega
              subst j
              have hRn : R = rpF m E a b (m - (d + 1)) M := by
                rw [K.out.2.2.1, none_find (fun k x hx => decide_eq_false (hno k x (by have := (List.getElem?_eq_some_iff.1 hx).1; have := K.out.2.2.2.2.2.2; omega) hx))]
              have G := Lib.hid (And.intro hbz hRn)
              clear hbz hRn hno hjn hq
              go_wp2_with (fail)
              go_roundg (m - (d + 1))
              case measure => have := B.out.1; omega
              case rel => exact ⟨d + 1, M, rfl, hdm, by simp, gr_call K.out.1 G.out.1, K.out.2.1.below G.out.1, G.out.2, K.out.2.2.2.1, K.out.2.2.2.2.1, by have := K.out.2.2.2.2.2.2; omega⟩
    · have ed : d = m := by omega
      subst d
      have hR0 : R = none := by rw [hR, Nat.sub_self]; rfl
      have G := Lib.hid (And.intro hbel hR0)
      clear hbel hR0 hq hll hR hdp hls hwl kk hdm
      go_wp2_with (fail)
      go_ret2
      exact ⟨_, by rw [G.out.2]; rfl, by rw [G.out.2]; exact NatsAt.nil _, gr_call F.out.1 G.out.1⟩
end Go.Proofs.Ytjgkiiohbceocaa
