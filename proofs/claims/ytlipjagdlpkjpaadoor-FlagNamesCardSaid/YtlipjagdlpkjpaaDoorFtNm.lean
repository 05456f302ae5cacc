/-
  FlagNames, walked; conditions: the two tables lie as they are laid, a variable of the library is an int.
-/
import Derived.Test.YtlipjagdlpkjpaaDoorFtBk
namespace Go.Proofs.YtlipjagdlpkjpaaDoor
open Go.RowKit Go.Joins
set_option linter.unusedVariables false
set_option linter.unusedSimpArgs false

theorem grown_of_x {w w' : World} {b : Nat} (h : BelowX w.heap.size b w w') : w.grownBy w' (some b) := ⟨h.os, h.tape, h.output, h.size, fun i hi hn => h.block i hi (fun e => hn (by rw [e]))⟩
theorem own_cells {w : World} {N : Nat} {A : Option Addr} {n c : Nat} {l : List ByteArray} (h : w.ownsRow N 9 1 (.slice A n c) n (l.map .string)) : Cells w A 1 n (strAt (nmAt l)) := by
  intro hn
  obtain ⟨g, cap, hv, _, hlt, _⟩ := own_form h hn
  have hA : A = some ⟨g, 0, none⟩ := by injection hv
  subst hA
  refine ⟨g, 0, rfl, hlt, fun i j hi hj => ?_⟩
  obtain rfl : j = 0 := by omega
  have hl : l.length = n := by have := h.1; simpa using this
  have := h.cells (g := g) rfl i (.string (l.getD i ⟨#[]⟩)) (by rw [List.getElem?_map, List.getD_eq_getElem?_getD, List.getElem?_eq_getElem (by omega)]; rfl)
  rw [Addr.add_lit] at this
  rw [show 0 + i * 1 + 0 = 0 + i by omega]
  exact this
theorem names_nm (l : List ByteArray) : namesL (nmAt l) l.length = l := by
  apply List.ext_getElem (names_len _ _)
  intro i h1 h2
  have := names_at (G := nmAt l) h2
  rw [List.getElem?_eq_getElem h1] at this
  rw [Option.some.inj this]
  unfold nmAt
  rw [List.getD_eq_getElem?_getD, List.getElem?_eq_getElem h2]; rfl
theorem zero_ok : FlgOk zeroF := ⟨by decide, by decide⟩
theorem run_ok : ∀ (L : List ByteArray) (s : Put) (a : Nat), PutOk s → PutOk (runP L s a).1 := by
  intro L
  induction L with
  | nil => intro s a h; exact h
  | cons p r ih =>
    intro s a h
    unfold runP
    split
    · exact ih _ _ (put_ok h p)
    · exact h
theorem with_ok {f : Flg} (h : FlgOk f) (L : List ByteArray) : FlgOk (withR f L).1 := by
  unfold withR
  split
  · unfold doneR
    split
    · split
      · exact run_ok L (putOf f) 1 h
      · exact zero_ok
    · exact zero_ok
  · exact zero_ok
theorem one_ok (R : List ByteArray) : ∀ k, FlgOk (oneK R k) := by
  intro k
  induction k with
  | zero => exact zero_ok
  | succ k ih => exact with_ok ih _
/-- What is there at a round's head: the flags' box, the box of the flags so far, the parts, the order so far. -/
def NaRel (f : Flg) (l R : List ByteArray) (B6 B11 : Nat) (v : Value) (w : World) (ov iv : Value) (wr : World) : Prop :=
  ∃ (k : Nat) (q : List ByteArray), k ≤ l.length ∧ iv = .int .i64 (k : Int) ∧ q = R.take k ∧ wr.ownsRow w.heap.size 9 1 ov q.length (q.map .string) ∧ wr.ownsRow w.heap.size 9 1 v l.length (l.map .string) ∧ RowsApart v ov ∧
    Blk wr B6 24 #[Value.bool f.last, .bool f.next, .bool f.chain, .bool f.fin, .bool f.forb, .bool f.gone, .bool f.app, .bool f.disc, .int .i64 f.skip, .int .i64 f.red] ∧ Blk wr B11 24 #[Value.bool ((oneK R k)).last, .bool ((oneK R k)).next, .bool ((oneK R k)).chain, .bool ((oneK R k)).fin, .bool ((oneK R k)).forb, .bool ((oneK R k)).gone, .bool ((oneK R k)).app, .bool ((oneK R k)).disc, .int .i64 ((oneK R k)).skip, .int .i64 ((oneK R k)).red] ∧ Below w.heap.size w wr

set_option maxRecDepth 100000 in
set_option maxHeartbeats 4000000 in
theorem law_names (n turn : Int) (hn : -9223372036854775808 ≤ n ∧ n ≤ 9223372036854775807) (ht : -9223372036854775808 ≤ turn ∧ turn ≤ 9223372036854775807) (w : World) (hT : Tabs w) (hm : MaxOk w) :
    Calls Tryd.prog 8 #[.int .i64 n, .int .i64 turn] w fun e W' => e = .returned (.bool true) ∧ Below w.heap.size w W' := by
  obtain ⟨i0, hi1, hz0, hz1, hz2⟩ := info_parts infoStr
  have HT := Lib.hid (And.intro hT (And.intro hm (And.intro hn ht)))
  clear hT hm hn ht
  go_enter Tryd.func8, Tryd.ntmps8
  go_wp2_with (fail)
  refine (law_known _ HT.out.1 HT.out.2.1).mono ?_
  rintro e W1 ⟨rfl, h1⟩
  have H1 := Lib.hid h1
  clear h1
  go_wp2_with (fail)
  obtain ⟨i, a, b, hi, hab, hmade⟩ := lmade n HT.out.2.2.1 W1
  obtain ⟨f, hf⟩ : ∃ f, f = wayF i a b := ⟨_, rfl⟩
  have HG : Hid (∀ o, o < 2 → goodF f o = true) := Lib.hid (fun o ho => by rw [hf]; exact good_of hi hab ho)
  rw [← hf] at hmade
  clear hi hab hf
  refine hmade.mono ?_
  rintro e W2 ⟨rfl, h2⟩
  have hw6 : w.heap.size ≤ W2.heap.size := (gr_call H1.out h2).size
  have K := Lib.hid (And.intro (Blk.new W2 24 #[Value.bool f.last, .bool f.next, .bool f.chain, .bool f.fin, .bool f.forb, .bool f.gone, .bool f.app, .bool f.disc, .int .i64 f.skip, .int .i64 f.red]) (gr_alloc (gr_call H1.out h2) (.cells #[Value.bool f.last, .bool f.next, .bool f.chain, .bool f.fin, .bool f.forb, .bool f.gone, .bool f.app, .bool f.disc, .int .i64 f.skip, .int .i64 f.red] 24)))
  have HP := Lib.hid (good_parts (HG.out 0 (by decide)))
  have HF : Hid (FlgOk f) := Lib.hid (by
    obtain ⟨z1, z2, z3, _⟩ := chkF_zero HP.out.1
    refine ⟨by omega, ?_⟩
    by_cases h0 : f.red = 0
    · rw [h0]; decide
    · have := red_bounds f.red (by rw [beq_eq_false_iff_ne.2 h0] at z3; simpa using z3)
      omega)
  clear hmade h2
  obtain ⟨tx, htx⟩ : ∃ tx, tx = textV f := ⟨_, rfl⟩
  obtain ⟨wv, hwv⟩ : ∃ wv, wv = endsV f := ⟨_, rfl⟩
  have HV := Lib.hid (And.intro htx hwv)
  have htz : tx.size ≤ 20 := by rw [htx]; exact HP.out.2.2.1
  have hwz : wv.size ≤ 102 := by rw [hwv]; exact endsV_size f
  clear htx hwv
  go_wp2_with (fail)
  refine (ftext f HF.out.1 _ (HT.out.1.below K.out.2 (Nat.le_refl _)) (HT.out.2.1.below K.out.2 (Nat.le_refl _))).mono ?_
  rintro e W3 ⟨rfl, h3⟩
  rw [← HV.out.1, HP.out.1]
  have K3 := Lib.hid (And.intro (K.out.1.call h3) (gr_call K.out.2 h3))
  clear h3
  have k0 : W3.cell? ⟨W2.heap.size, 0, none⟩ = some (.bool f.last) := K3.out.1.cell' (i := 0) rfl
  have k1 : W3.cell? ⟨W2.heap.size, 1, none⟩ = some (.bool f.next) := K3.out.1.cell' (i := 1) rfl
  have k2 : W3.cell? ⟨W2.heap.size, 2, none⟩ = some (.bool f.chain) := K3.out.1.cell' (i := 2) rfl
  have k3 : W3.cell? ⟨W2.heap.size, 3, none⟩ = some (.bool f.fin) := K3.out.1.cell' (i := 3) rfl
  have k4 : W3.cell? ⟨W2.heap.size, 4, none⟩ = some (.bool f.forb) := K3.out.1.cell' (i := 4) rfl
  have k5 : W3.cell? ⟨W2.heap.size, 5, none⟩ = some (.bool f.gone) := K3.out.1.cell' (i := 5) rfl
  have k6 : W3.cell? ⟨W2.heap.size, 6, none⟩ = some (.bool f.app) := K3.out.1.cell' (i := 6) rfl
  have k7 : W3.cell? ⟨W2.heap.size, 7, none⟩ = some (.bool f.disc) := K3.out.1.cell' (i := 7) rfl
  have k8 : W3.cell? ⟨W2.heap.size, 8, none⟩ = some (.int .i64 f.skip) := K3.out.1.cell' (i := 8) rfl
  have k9 : W3.cell? ⟨W2.heap.size, 9, none⟩ = some (.int .i64 f.red) := K3.out.1.cell' (i := 9) rfl
  have kl := K3.out.1.lt
  go_wp2_with (fail)
  refine (lnames tx (by omega) _).mono ?_
  rintro e W7 ⟨v, rfl, hown, h7⟩
  have hown0 := own_weaken hown K3.out.2.size
  obtain ⟨l, hl⟩ : ∃ l, l = namesP tx := ⟨_, rfl⟩
  rw [← hl] at hown0
  have hl2 : l.length ≤ 2 := by rw [hl, HV.out.1]; exact HP.out.2.2.2.1
  have K7 := Lib.hid (And.intro (K3.out.1.call h7) (And.intro (gr_call K3.out.2 h7) (And.intro hown0 hl)))
  have hw7 := (gr_call K3.out.2 h7).size
  clear h7 hown hown0 hl k0 k1 k2 k3 k4 k5 k6 k7 k8 k9 kl
  obtain ⟨va, vc, rfl⟩ := own_slice K7.out.2.2.1
  go_wp2_with (fail)
  obtain ⟨o, R, HR, hoz⟩ : ∃ o R, Hid (R = rotL l o ∧ goodF f o = true ∧ (0 < l.length → turn % (l.length : Int) = (o : Int) ∧ o < l.length)) ∧ o < 2 := by
    by_cases h0 : l.length = 0
    · exact ⟨0, rotL l 0, Lib.hid ⟨rfl, HG.out 0 (by decide), fun h => absurd h (by omega)⟩, by decide⟩
    · obtain ⟨o, ho⟩ := Int.eq_ofNat_of_zero_le (Int.emod_nonneg turn (show (l.length : Int) ≠ 0 by omega))
      have hol : o < l.length := by have := Int.emod_lt_of_pos turn (show (0 : Int) < (l.length : Int) by omega); omega
      exact ⟨o, rotL l o, Lib.hid ⟨rfl, HG.out o (by omega), fun _ => ⟨ho, hol⟩⟩, by omega⟩
  have HPo := Lib.hid (good_parts HR.out.2.1)
  have hst : NaRel f l R W2.heap.size W7.heap.size (.slice va l.length vc) w (.slice none 0 0) (.int .i64 0) (W7.alloc (.cells #[Value.bool zeroF.last, .bool zeroF.next, .bool zeroF.chain, .bool zeroF.fin, .bool zeroF.forb, .bool zeroF.gone, .bool zeroF.app, .bool zeroF.disc, .int .i64 zeroF.skip, .int .i64 zeroF.red] 24)) :=
    ⟨0, [], by omega, rfl, rfl, World.ownsRow_nil _ _ _ _, K7.out.2.2.1.alloc _, fun _ _ => by simp [Value.ownBlock], K7.out.1.alloc _, Blk.new _ _ _, gr_alloc K7.out.2.1 _⟩
  have HST := Lib.hid hst
  have hB67 : W2.heap.size < W7.heap.size := K7.out.1.lt
  clear hst
  go_loopw [10, 12] (fun ov iv wr => NaRel f l R W2.heap.size W7.heap.size (.slice va l.length vc) w ov iv wr) (fun _ iv _ => l.length - (intOf iv).toNat)
  case atStart => exact HST.out
  case round =>
    clear HST
    obtain ⟨k, q, hk, rfl, hq, hoo, hov, hap, hbf, hbn, hbel⟩ := hrel
    have hbz := hbel.size
    obtain ⟨oa, oc, rfl⟩ := own_slice hoo
    by_cases hlt : k < l.length
    · have hl0 : 0 < l.length := by omega
      have HRt := Lib.hid (HR.out.2.2 hl0)
      obtain ⟨g, cap, hgv, hgN, hgl, hgc⟩ := own_form hov hl0
      obtain ⟨rfl, rfl⟩ : va = some ⟨g, 0, none⟩ ∧ vc = cap := by simpa using hgv
      obtain ⟨j, hj⟩ : ∃ j, j = (k + o) % l.length := ⟨_, rfl⟩
      have hjl : j < l.length := by rw [hj]; exact Nat.mod_lt _ hl0
      have hji : ((k : Int) + (o : Int)) % (l.length : Int) = (j : Int) := by
        rw [hj, Int.natCast_emod]
        rw [show ((k + o : Nat) : Int) = (k : Int) + (o : Int) by omega]
      obtain ⟨x, hx⟩ : ∃ x, x = l.getD j ⟨#[]⟩ := ⟨_, rfl⟩
      have hxR : R.getD k ⟨#[]⟩ = x := by rw [HR.out.1, rot_at hlt, hx, hj]
      have hcx := hov.cells (g := g) rfl j (.string x) (by rw [List.getElem?_map, hx, List.getD_eq_getElem?_getD, List.getElem?_eq_getElem hjl]; rfl)
      rw [Addr.add_lit, Nat.zero_add] at hcx
      have hxs : x.size ≤ 1000000 := by
        have hm : x ∈ l := by rw [hx, List.getD_eq_getElem?_getD, List.getElem?_eq_getElem hjl]; exact List.getElem_mem _
        rw [K7.out.2.2.2] at hm
        have := names_size tx _ x hm
        omega
      have hstep := HPo.out.2.2.2.2.2.2.2.2.2 k (by rw [← HV.out.1, ← K7.out.2.2.2]; exact hlt)
      rw [← HV.out.1, ← K7.out.2.2.2, ← HR.out.1] at hstep
      unfold stepK at hstep
      rw [Bool.and_eq_true, decide_eq_true_eq, decide_eq_true_eq, hxR] at hstep
      have hone : oneK R (k + 1) = (withR (oneK R k) [x]).1 := by rw [← hxR]; rfl
      obtain ⟨nk, hnk⟩ : ∃ nk, nk = oneK R k := ⟨_, rfl⟩
      obtain ⟨n2, hn2⟩ : ∃ n2, n2 = oneK R (k + 1) := ⟨_, rfl⟩
      rw [← hnk] at hstep hone hbn
      rw [← hn2] at hstep hone
      have hw1 : withR nk [x] = (n2, 0) := Prod.ext hone.symm hstep.1
      obtain ⟨r2, hr2⟩ : ∃ r2, r2 = withR n2 [x] := ⟨_, rfl⟩
      have HNK := Lib.hid (And.intro hnk (And.intro hn2 (And.intro hw1 (And.intro hr2 (hr2 ▸ hstep.2 : r2.2 = 7)))))
      have H := Lib.hid (And.intro hq (And.intro hoo (And.intro hov (And.intro hap (And.intro hbf (And.intro hbn (And.intro hbel (And.intro hcx hxR))))))))
      have hql : q.length ≤ k := by rw [hq]; exact List.length_take_le _ _
      have hoi : (o : Int) < (l.length : Int) := by have := HRt.out.2; omega
      clear hgv hx hxR hcx hq hoo hov hap hbf hbn hbel hnk hn2 hw1 hr2 hstep hone hj
      have HJ := Lib.hid hji
      clear hji
      go_wp2_with (fail)
      refine (kmod turn (l.length : Int) _ HT.out.2.2.2 ⟨by omega, by omega⟩).mono ?_
      rintro e W8 ⟨rfl, h8⟩
      rw [HRt.out.1]
      have hji := HJ.out
      have hc : W8.cell? ⟨g, j, none⟩ = some (.string x) := by rw [h8.cell (p := ⟨g, j, none⟩) hgl]; exact H.out.2.2.2.2.2.2.2.1
      have hown8 := own_below H.out.2.1 h8 (Nat.le_refl _)
      have hov8 := own_below H.out.2.2.1 h8 (Nat.le_refl _)
      have hg8 : g < W8.heap.size := Nat.lt_of_lt_of_le hgl h8.size
      have K8 := Lib.hid (And.intro hov8 (And.intro (H.out.2.2.2.2.1.call h8) (And.intro (H.out.2.2.2.2.2.1.call h8) (gr_call H.out.2.2.2.2.2.2.1 h8))))
      have hz8 := (gr_call H.out.2.2.2.2.2.2.1 h8).size
      clear h8 hov8
      go_wp2_with (at_builtin; refine wpList_append_own_at _ rfl _ _ 40 rfl w.heap.size 9 i0 (.string ⟨#[]⟩) 1 16 Tryd.underlying40 hi1 hz0 hz1 hz2 rfl (by decide) _ _ _ rfl (hown8.alloc _) ⟨W8.heap.size, 0, none⟩ 1 1 [.string x] rfl rfl (one_new rfl _ _) (one_str _) (by unfold maxLen; omega) (by omega) (by simp; omega) ?_)
      intro v' w2 hown' hgrow _ hat
      have a6 := K8.out.2.1.alloc (.cells #[.string x] 9)
      have a11 := K8.out.2.2.1.alloc (.cells #[.string x] 9)
      have aov := (K8.out.1.alloc (.cells #[.string x] 9)).kept hgrow H.out.2.2.2.1.keep
      have aap := H.out.2.2.2.1.step (fun q hq => by have := ((K8.out.1.alloc (.cells #[.string x] 9)).lt q hq).2; simpa using this) hat
      have c6 := a6.grown hgrow (own_blk_ne (hown8.alloc _) a6 (by decide))
      have c11 := a11.grown hgrow (own_blk_ne (hown8.alloc _) a11 (by decide))
      have cbel := (K8.out.2.2.2.alloc hz8 (.cells #[.string x] 9)).grown hgrow (by simp; omega) (fun q hq => (hown8.lt q hq).1)
      have K9 := Lib.hid (And.intro hown' (And.intro aov (And.intro aap (And.intro c6 (And.intro c11 cbel)))))
      clear hown8 hown' hgrow hat a6 a11 aov aap c6 c11 cbel hc hji
      obtain ⟨na, nc, rfl⟩ : ∃ na nc, v' = .slice na (q.length + 1) nc := own_slice K9.out.1
      have m0 : w2.cell? ⟨W7.heap.size, 0, none⟩ = some (.bool nk.last) := K9.out.2.2.2.2.1.cell' (i := 0) rfl
      have m1 : w2.cell? ⟨W7.heap.size, 1, none⟩ = some (.bool nk.next) := K9.out.2.2.2.2.1.cell' (i := 1) rfl
      have m2 : w2.cell? ⟨W7.heap.size, 2, none⟩ = some (.bool nk.chain) := K9.out.2.2.2.2.1.cell' (i := 2) rfl
      have m3 : w2.cell? ⟨W7.heap.size, 3, none⟩ = some (.bool nk.fin) := K9.out.2.2.2.2.1.cell' (i := 3) rfl
      have m4 : w2.cell? ⟨W7.heap.size, 4, none⟩ = some (.bool nk.forb) := K9.out.2.2.2.2.1.cell' (i := 4) rfl
      have m5 : w2.cell? ⟨W7.heap.size, 5, none⟩ = some (.bool nk.gone) := K9.out.2.2.2.2.1.cell' (i := 5) rfl
      have m6 : w2.cell? ⟨W7.heap.size, 6, none⟩ = some (.bool nk.app) := K9.out.2.2.2.2.1.cell' (i := 6) rfl
      have m7 : w2.cell? ⟨W7.heap.size, 7, none⟩ = some (.bool nk.disc) := K9.out.2.2.2.2.1.cell' (i := 7) rfl
      have m8 : w2.cell? ⟨W7.heap.size, 8, none⟩ = some (.int .i64 nk.skip) := K9.out.2.2.2.2.1.cell' (i := 8) rfl
      have m9 : w2.cell? ⟨W7.heap.size, 9, none⟩ = some (.int .i64 nk.red) := K9.out.2.2.2.2.1.cell' (i := 9) rfl
      have ml := K9.out.2.2.2.2.1.lt
      have hok : Hid (FlgOk nk ∧ FlgOk n2) := Lib.hid ⟨by rw [HNK.out.1]; exact one_ok R k, by rw [HNK.out.2.1]; exact one_ok R (k + 1)⟩
      have hbN : Blk (w2.alloc (.cells #[.string x] 9)) w2.heap.size 9 #[.string x] := Blk.new _ _ _
      have hC : Cells (w2.alloc (.cells #[.string x] 9)) (some ⟨w2.heap.size, 0, none⟩) 1 1 (strAt (fun _ => x)) := cells_blk hbN (fun i hi => by
        match i, hi with
        | 0, _ => rfl)
      have J1 := Lib.hid (And.intro (gr_alloc K9.out.2.2.2.2.2 (.cells #[.string x] 9)) hC)
      clear hbN hC
      go_wp2_with (fail)
      refine (fwith nk hok.out.1 (fun _ => x) _ 1 1 (by decide) (fun _ _ => hxs) _ (HT.out.1.below J1.out.1 (Nat.le_refl _)) (HT.out.2.1.below J1.out.1 (Nat.le_refl _)) J1.out.2).mono ?_
      rintro e W9 ⟨rfl, h9⟩
      rw [show namesL (fun _ => x) 1 = [x] from rfl, HNK.out.2.2.1]
      clear m0 m1 m2 m3 m4 m5 m6 m7 m8 m9 ml
      have K10 := Lib.hid (And.intro (own_below (K9.out.1.alloc (.cells #[.string x] 9)) h9 (Nat.le_refl _)) (And.intro (own_below (K9.out.2.1.alloc (.cells #[.string x] 9)) h9 (Nat.le_refl _)) (And.intro ((K9.out.2.2.2.1.alloc (.cells #[.string x] 9)).call h9) (And.intro ((K9.out.2.2.2.2.1.alloc (.cells #[.string x] 9)).call h9) (gr_call J1.out.1 h9)))))
      clear h9 J1
      have hbN : Blk ((W9.alloc (.cells #[Value.bool n2.last, .bool n2.next, .bool n2.chain, .bool n2.fin, .bool n2.forb, .bool n2.gone, .bool n2.app, .bool n2.disc, .int .i64 n2.skip, .int .i64 n2.red] 24)).alloc (.cells #[.string x] 9)) (W9.heap.size + 1) 9 #[.string x] := blk_at (by simp)
      have hC : Cells ((W9.alloc (.cells #[Value.bool n2.last, .bool n2.next, .bool n2.chain, .bool n2.fin, .bool n2.forb, .bool n2.gone, .bool n2.app, .bool n2.disc, .int .i64 n2.skip, .int .i64 n2.red] 24)).alloc (.cells #[.string x] 9)) (some ⟨W9.heap.size + 1, 0, none⟩) 1 1 (strAt (fun _ => x)) := cells_blk hbN (fun i hi => by
        match i, hi with
        | 0, _ => rfl)
      have J2 := Lib.hid (And.intro (gr_alloc (gr_alloc K10.out.2.2.2.2 (.cells #[Value.bool n2.last, .bool n2.next, .bool n2.chain, .bool n2.fin, .bool n2.forb, .bool n2.gone, .bool n2.app, .bool n2.disc, .int .i64 n2.skip, .int .i64 n2.red] 24)) (.cells #[.string x] 9)) (And.intro hC ((Blk.new W9 24 #[Value.bool n2.last, .bool n2.next, .bool n2.chain, .bool n2.fin, .bool n2.forb, .bool n2.gone, .bool n2.app, .bool n2.disc, .int .i64 n2.skip, .int .i64 n2.red]).alloc (.cells #[.string x] 9))))
      clear hbN hC
      go_wp2_with (fail)
      refine (fwith n2 hok.out.2 (fun _ => x) _ 1 1 (by decide) (fun _ _ => hxs) _ (HT.out.1.below J2.out.1 (Nat.le_refl _)) (HT.out.2.1.below J2.out.1 (Nat.le_refl _)) J2.out.2.1).mono ?_
      rintro e W10 ⟨rfl, h10⟩
      rw [show namesL (fun _ => x) 1 = [x] from rfl, ← HNK.out.2.2.2.1, HNK.out.2.2.2.2]
      have e14 := J2.out.2.2.call h10
      have e6 := ((K10.out.2.2.1.alloc (.cells #[Value.bool n2.last, .bool n2.next, .bool n2.chain, .bool n2.fin, .bool n2.forb, .bool n2.gone, .bool n2.app, .bool n2.disc, .int .i64 n2.skip, .int .i64 n2.red] 24)).alloc (.cells #[.string x] 9)).call h10
      have e11 := ((K10.out.2.2.2.1.alloc (.cells #[Value.bool n2.last, .bool n2.next, .bool n2.chain, .bool n2.fin, .bool n2.forb, .bool n2.gone, .bool n2.app, .bool n2.disc, .int .i64 n2.skip, .int .i64 n2.red] 24)).alloc (.cells #[.string x] 9)).call h10
      have eo := own_below ((K10.out.1.alloc (.cells #[Value.bool n2.last, .bool n2.next, .bool n2.chain, .bool n2.fin, .bool n2.forb, .bool n2.gone, .bool n2.app, .bool n2.disc, .int .i64 n2.skip, .int .i64 n2.red] 24)).alloc (.cells #[.string x] 9)) h10 (Nat.le_refl _)
      have ev := own_below ((K10.out.2.1.alloc (.cells #[Value.bool n2.last, .bool n2.next, .bool n2.chain, .bool n2.fin, .bool n2.forb, .bool n2.gone, .bool n2.app, .bool n2.disc, .int .i64 n2.skip, .int .i64 n2.red] 24)).alloc (.cells #[.string x] 9)) h10 (Nat.le_refl _)
      have K11 := Lib.hid (And.intro e14 (And.intro e6 (And.intro e11 (And.intro eo (And.intro ev (gr_call J2.out.1 h10))))))
      clear h10 e14 e6 e11 eo ev J2
      have m0 : W10.cell? ⟨W9.heap.size, 0, none⟩ = some (.bool n2.last) := K11.out.1.cell' (i := 0) rfl
      have m1 : W10.cell? ⟨W9.heap.size, 1, none⟩ = some (.bool n2.next) := K11.out.1.cell' (i := 1) rfl
      have m2 : W10.cell? ⟨W9.heap.size, 2, none⟩ = some (.bool n2.chain) := K11.out.1.cell' (i := 2) rfl
      have m3 : W10.cell? ⟨W9.heap.size, 3, none⟩ = some (.bool n2.fin) := K11.out.1.cell' (i := 3) rfl
      have m4 : W10.cell? ⟨W9.heap.size, 4, none⟩ = some (.bool n2.forb) := K11.out.1.cell' (i := 4) rfl
      have m5 : W10.cell? ⟨W9.heap.size, 5, none⟩ = some (.bool n2.gone) := K11.out.1.cell' (i := 5) rfl
      have m6 : W10.cell? ⟨W9.heap.size, 6, none⟩ = some (.bool n2.app) := K11.out.1.cell' (i := 6) rfl
      have m7 : W10.cell? ⟨W9.heap.size, 7, none⟩ = some (.bool n2.disc) := K11.out.1.cell' (i := 7) rfl
      have m8 : W10.cell? ⟨W9.heap.size, 8, none⟩ = some (.int .i64 n2.skip) := K11.out.1.cell' (i := 8) rfl
      have m9 : W10.cell? ⟨W9.heap.size, 9, none⟩ = some (.int .i64 n2.red) := K11.out.1.cell' (i := 9) rfl
      have ml := K11.out.1.lt
      have p0 : W10.cell? ⟨W7.heap.size, 0, none⟩ = some (.bool nk.last) := K11.out.2.2.1.cell' (i := 0) rfl
      have p1 : W10.cell? ⟨W7.heap.size, 1, none⟩ = some (.bool nk.next) := K11.out.2.2.1.cell' (i := 1) rfl
      have p2 : W10.cell? ⟨W7.heap.size, 2, none⟩ = some (.bool nk.chain) := K11.out.2.2.1.cell' (i := 2) rfl
      have p3 : W10.cell? ⟨W7.heap.size, 3, none⟩ = some (.bool nk.fin) := K11.out.2.2.1.cell' (i := 3) rfl
      have p4 : W10.cell? ⟨W7.heap.size, 4, none⟩ = some (.bool nk.forb) := K11.out.2.2.1.cell' (i := 4) rfl
      have p5 : W10.cell? ⟨W7.heap.size, 5, none⟩ = some (.bool nk.gone) := K11.out.2.2.1.cell' (i := 5) rfl
      have p6 : W10.cell? ⟨W7.heap.size, 6, none⟩ = some (.bool nk.app) := K11.out.2.2.1.cell' (i := 6) rfl
      have p7 : W10.cell? ⟨W7.heap.size, 7, none⟩ = some (.bool nk.disc) := K11.out.2.2.1.cell' (i := 7) rfl
      have p8 : W10.cell? ⟨W7.heap.size, 8, none⟩ = some (.int .i64 nk.skip) := K11.out.2.2.1.cell' (i := 8) rfl
      have p9 : W10.cell? ⟨W7.heap.size, 9, none⟩ = some (.int .i64 nk.red) := K11.out.2.2.1.cell' (i := 9) rfl
      have pl := K11.out.2.2.1.lt
      have fz0 := K11.out.2.2.1.frozen 0
      have fz1 := K11.out.2.2.1.frozen 1
      have fz2 := K11.out.2.2.1.frozen 2
      have fz3 := K11.out.2.2.1.frozen 3
      have fz4 := K11.out.2.2.1.frozen 4
      have fz5 := K11.out.2.2.1.frozen 5
      have fz6 := K11.out.2.2.1.frozen 6
      have fz7 := K11.out.2.2.1.frozen 7
      have fz8 := K11.out.2.2.1.frozen 8
      have fz9 := K11.out.2.2.1.frozen 9
      have K12 := Lib.hid (lay10_same K11.out.2.2.1 rfl (.bool n2.last) (.bool n2.next) (.bool n2.chain) (.bool n2.fin) (.bool n2.forb) (.bool n2.gone) (.bool n2.app) (.bool n2.disc) (.int .i64 n2.skip) (.int .i64 n2.red))
      go_wp2_with (fail)
      have hx10 := lay10_x (BelowX.refl W10.heap.size W7.heap.size W10) (.bool n2.last) (.bool n2.next) (.bool n2.chain) (.bool n2.fin) (.bool n2.forb) (.bool n2.gone) (.bool n2.app) (.bool n2.disc) (.int .i64 n2.skip) (.int .i64 n2.red)
      have hw10 : W7.heap.size < W10.heap.size := K11.out.2.2.1.lt
      refine ⟨⟨k + 1, q ++ [x], by omega, by go_num, ?_, ?_, ?_, K9.out.2.2.1, ?_, ?_, ?_⟩, by simp [intOf]; omega⟩
      · have hkR : k < R.length := by rw [HR.out.1, rot_len]; exact hlt
        have hRx : R[k]? = some x := by
          have := H.out.2.2.2.2.2.2.2.2
          rw [List.getD_eq_getElem?_getD, List.getElem?_eq_getElem hkR] at this
          rw [List.getElem?_eq_getElem hkR]
          exact congrArg some this
        rw [List.take_add_one, hRx, ← H.out.1]
        rfl
      · rw [List.length_append, List.map_append]
        exact ((K11.out.2.2.2.1.kept (grown_of_x hx10) (.inr (fun e => own_blk_ne K11.out.2.2.2.1 K11.out.2.2.1 (by decide) e.symm))).alloc _)
      · exact ((K11.out.2.2.2.2.1.kept (grown_of_x hx10) (.inr (fun e => own_blk_ne K11.out.2.2.2.2.1 K11.out.2.2.1 (by decide) e.symm))).alloc _)
      · exact (lay10_far K11.out.2.1 (by omega) _ _ _ _ _ _ _ _ _ _).alloc _
      · rw [← HNK.out.2.1]
        exact K12.out.alloc _
      · exact gr_alloc (K11.out.2.2.2.2.2.trans (hx10.below (by have := K11.out.2.2.2.2.2.size; omega) (by omega))) _
    · obtain rfl : k = l.length := by omega
      have hRl : R.length = l.length := by rw [HR.out.1, rot_len]
      have hqR : q = R := by rw [hq, ← hRl, List.take_length]
      have hql : q.length ≤ 2 := by rw [hqR, hRl]; exact hl2
      have hw1 : withR zeroF q = (f, 0) := by
        have := HPo.out.2.2.2.2.2.2.2.1
        rw [← HV.out.1, ← K7.out.2.2.2, ← HR.out.1] at this
        rw [hqR]; exact this
      have hon : oneK R l.length = f := by
        have := HPo.out.2.2.2.2.2.2.2.2.1
        rwa [← HV.out.1, ← K7.out.2.2.2, ← HR.out.1] at this
      rw [hon] at hbn
      have hqs : ∀ i, i < q.length → (nmAt q i).size ≤ 1000000 := fun i hi => by
        unfold nmAt
        rw [List.getD_eq_getElem?_getD, List.getElem?_eq_getElem hi]
        have := rot_size (l := l) (n := 20) (o := o) (fun x hx => by have := names_size tx _ x (by rw [K7.out.2.2.2] at hx; exact hx); omega) q[i] (by rw [← HR.out.1, ← hqR]; exact List.getElem_mem _)
        exact Nat.le_trans this (by decide)
      have H := Lib.hid (And.intro hw1 (And.intro hqs (And.intro hoo (And.intro hbf (And.intro hbn hbel)))))
      clear hq hqR hw1 hon hqs hoo hov hap hbf hbn hbel hRl
      go_wp2_with (fail)
      refine (fwith zeroF zero_ok (nmAt q) _ q.length oc (by omega) H.out.2.1 _ (HT.out.1.below H.out.2.2.2.2.2 (Nat.le_refl _)) (HT.out.2.1.below H.out.2.2.2.2.2 (Nat.le_refl _)) (own_cells H.out.2.2.1)).mono ?_
      rintro e W8 ⟨rfl, h8⟩
      rw [names_nm, H.out.1]
      have K8 := Lib.hid (And.intro ((H.out.2.2.2.1.call h8).alloc (.cells #[Value.bool f.last, .bool f.next, .bool f.chain, .bool f.fin, .bool f.forb, .bool f.gone, .bool f.app, .bool f.disc, .int .i64 f.skip, .int .i64 f.red] 24)) (And.intro ((H.out.2.2.2.2.1.call h8).alloc (.cells #[Value.bool f.last, .bool f.next, .bool f.chain, .bool f.fin, .bool f.forb, .bool f.gone, .bool f.app, .bool f.disc, .int .i64 f.skip, .int .i64 f.red] 24)) (And.intro (Blk.new W8 24 #[Value.bool f.last, .bool f.next, .bool f.chain, .bool f.fin, .bool f.forb, .bool f.gone, .bool f.app, .bool f.disc, .int .i64 f.skip, .int .i64 f.red]) (gr_alloc (gr_call H.out.2.2.2.2.2 h8) (.cells #[Value.bool f.last, .bool f.next, .bool f.chain, .bool f.fin, .bool f.forb, .bool f.gone, .bool f.app, .bool f.disc, .int .i64 f.skip, .int .i64 f.red] 24)))))
      have hl28 : W2.heap.size < W8.heap.size := (H.out.2.2.2.1.call h8).lt
      clear h8
      have k0 : (W8.alloc (.cells #[Value.bool f.last, .bool f.next, .bool f.chain, .bool f.fin, .bool f.forb, .bool f.gone, .bool f.app, .bool f.disc, .int .i64 f.skip, .int .i64 f.red] 24)).cell? ⟨W2.heap.size, 0, none⟩ = some (.bool f.last) := K8.out.1.cell' (i := 0) rfl
      have k1 : (W8.alloc (.cells #[Value.bool f.last, .bool f.next, .bool f.chain, .bool f.fin, .bool f.forb, .bool f.gone, .bool f.app, .bool f.disc, .int .i64 f.skip, .int .i64 f.red] 24)).cell? ⟨W2.heap.size, 1, none⟩ = some (.bool f.next) := K8.out.1.cell' (i := 1) rfl
      have k2 : (W8.alloc (.cells #[Value.bool f.last, .bool f.next, .bool f.chain, .bool f.fin, .bool f.forb, .bool f.gone, .bool f.app, .bool f.disc, .int .i64 f.skip, .int .i64 f.red] 24)).cell? ⟨W2.heap.size, 2, none⟩ = some (.bool f.chain) := K8.out.1.cell' (i := 2) rfl
      have k3 : (W8.alloc (.cells #[Value.bool f.last, .bool f.next, .bool f.chain, .bool f.fin, .bool f.forb, .bool f.gone, .bool f.app, .bool f.disc, .int .i64 f.skip, .int .i64 f.red] 24)).cell? ⟨W2.heap.size, 3, none⟩ = some (.bool f.fin) := K8.out.1.cell' (i := 3) rfl
      have k4 : (W8.alloc (.cells #[Value.bool f.last, .bool f.next, .bool f.chain, .bool f.fin, .bool f.forb, .bool f.gone, .bool f.app, .bool f.disc, .int .i64 f.skip, .int .i64 f.red] 24)).cell? ⟨W2.heap.size, 4, none⟩ = some (.bool f.forb) := K8.out.1.cell' (i := 4) rfl
      have k5 : (W8.alloc (.cells #[Value.bool f.last, .bool f.next, .bool f.chain, .bool f.fin, .bool f.forb, .bool f.gone, .bool f.app, .bool f.disc, .int .i64 f.skip, .int .i64 f.red] 24)).cell? ⟨W2.heap.size, 5, none⟩ = some (.bool f.gone) := K8.out.1.cell' (i := 5) rfl
      have k6 : (W8.alloc (.cells #[Value.bool f.last, .bool f.next, .bool f.chain, .bool f.fin, .bool f.forb, .bool f.gone, .bool f.app, .bool f.disc, .int .i64 f.skip, .int .i64 f.red] 24)).cell? ⟨W2.heap.size, 6, none⟩ = some (.bool f.app) := K8.out.1.cell' (i := 6) rfl
      have k7 : (W8.alloc (.cells #[Value.bool f.last, .bool f.next, .bool f.chain, .bool f.fin, .bool f.forb, .bool f.gone, .bool f.app, .bool f.disc, .int .i64 f.skip, .int .i64 f.red] 24)).cell? ⟨W2.heap.size, 7, none⟩ = some (.bool f.disc) := K8.out.1.cell' (i := 7) rfl
      have k8 : (W8.alloc (.cells #[Value.bool f.last, .bool f.next, .bool f.chain, .bool f.fin, .bool f.forb, .bool f.gone, .bool f.app, .bool f.disc, .int .i64 f.skip, .int .i64 f.red] 24)).cell? ⟨W2.heap.size, 8, none⟩ = some (.int .i64 f.skip) := K8.out.1.cell' (i := 8) rfl
      have k9 : (W8.alloc (.cells #[Value.bool f.last, .bool f.next, .bool f.chain, .bool f.fin, .bool f.forb, .bool f.gone, .bool f.app, .bool f.disc, .int .i64 f.skip, .int .i64 f.red] 24)).cell? ⟨W2.heap.size, 9, none⟩ = some (.int .i64 f.red) := K8.out.1.cell' (i := 9) rfl
      have kl := K8.out.1.lt
      go_wp2_with (fail)
      refine (fwith f HF.out (fun _ => ⟨#[]⟩) none 0 0 (by decide) (fun i hi => absurd hi (by omega)) _ (HT.out.1.below K8.out.2.2.2 (Nat.le_refl _)) (HT.out.2.1.below K8.out.2.2.2 (Nat.le_refl _)) (fun hn => absurd hn (by omega))).mono ?_
      rintro e W9 ⟨rfl, h9⟩
      rw [show namesL (fun _ => (⟨#[]⟩ : ByteArray)) 0 = [] from rfl, HPo.out.2.2.2.2.2.2.1]
      clear k0 k1 k2 k3 k4 k5 k6 k7 k8 k9 kl
      have z6 := K8.out.1.call h9
      have z11 := K8.out.2.1.call h9
      have z18 := K8.out.2.2.1.call h9
      have H9 := Lib.hid (gr_alloc (gr_call K8.out.2.2.2 h9) (.cells #[Value.bool f.last, .bool f.next, .bool f.chain, .bool f.fin, .bool f.forb, .bool f.gone, .bool f.app, .bool f.disc, .int .i64 f.skip, .int .i64 f.red] 24))
      have k0 : W9.cell? ⟨W2.heap.size, 0, none⟩ = some (.bool f.last) := z6.cell' (i := 0) rfl
      have k1 : W9.cell? ⟨W2.heap.size, 1, none⟩ = some (.bool f.next) := z6.cell' (i := 1) rfl
      have k2 : W9.cell? ⟨W2.heap.size, 2, none⟩ = some (.bool f.chain) := z6.cell' (i := 2) rfl
      have k3 : W9.cell? ⟨W2.heap.size, 3, none⟩ = some (.bool f.fin) := z6.cell' (i := 3) rfl
      have k4 : W9.cell? ⟨W2.heap.size, 4, none⟩ = some (.bool f.forb) := z6.cell' (i := 4) rfl
      have k5 : W9.cell? ⟨W2.heap.size, 5, none⟩ = some (.bool f.gone) := z6.cell' (i := 5) rfl
      have k6 : W9.cell? ⟨W2.heap.size, 6, none⟩ = some (.bool f.app) := z6.cell' (i := 6) rfl
      have k7 : W9.cell? ⟨W2.heap.size, 7, none⟩ = some (.bool f.disc) := z6.cell' (i := 7) rfl
      have k8 : W9.cell? ⟨W2.heap.size, 8, none⟩ = some (.int .i64 f.skip) := z6.cell' (i := 8) rfl
      have k9 : W9.cell? ⟨W2.heap.size, 9, none⟩ = some (.int .i64 f.red) := z6.cell' (i := 9) rfl
      have kl := z6.lt
      have m0 : W9.cell? ⟨W7.heap.size, 0, none⟩ = some (.bool f.last) := z11.cell' (i := 0) rfl
      have m1 : W9.cell? ⟨W7.heap.size, 1, none⟩ = some (.bool f.next) := z11.cell' (i := 1) rfl
      have m2 : W9.cell? ⟨W7.heap.size, 2, none⟩ = some (.bool f.chain) := z11.cell' (i := 2) rfl
      have m3 : W9.cell? ⟨W7.heap.size, 3, none⟩ = some (.bool f.fin) := z11.cell' (i := 3) rfl
      have m4 : W9.cell? ⟨W7.heap.size, 4, none⟩ = some (.bool f.forb) := z11.cell' (i := 4) rfl
      have m5 : W9.cell? ⟨W7.heap.size, 5, none⟩ = some (.bool f.gone) := z11.cell' (i := 5) rfl
      have m6 : W9.cell? ⟨W7.heap.size, 6, none⟩ = some (.bool f.app) := z11.cell' (i := 6) rfl
      have m7 : W9.cell? ⟨W7.heap.size, 7, none⟩ = some (.bool f.disc) := z11.cell' (i := 7) rfl
      have m8 : W9.cell? ⟨W7.heap.size, 8, none⟩ = some (.int .i64 f.skip) := z11.cell' (i := 8) rfl
      have m9 : W9.cell? ⟨W7.heap.size, 9, none⟩ = some (.int .i64 f.red) := z11.cell' (i := 9) rfl
      have ml := z11.lt
      have p0 : W9.cell? ⟨W8.heap.size, 0, none⟩ = some (.bool f.last) := z18.cell' (i := 0) rfl
      have p1 : W9.cell? ⟨W8.heap.size, 1, none⟩ = some (.bool f.next) := z18.cell' (i := 1) rfl
      have p2 : W9.cell? ⟨W8.heap.size, 2, none⟩ = some (.bool f.chain) := z18.cell' (i := 2) rfl
      have p3 : W9.cell? ⟨W8.heap.size, 3, none⟩ = some (.bool f.fin) := z18.cell' (i := 3) rfl
      have p4 : W9.cell? ⟨W8.heap.size, 4, none⟩ = some (.bool f.forb) := z18.cell' (i := 4) rfl
      have p5 : W9.cell? ⟨W8.heap.size, 5, none⟩ = some (.bool f.gone) := z18.cell' (i := 5) rfl
      have p6 : W9.cell? ⟨W8.heap.size, 6, none⟩ = some (.bool f.app) := z18.cell' (i := 6) rfl
      have p7 : W9.cell? ⟨W8.heap.size, 7, none⟩ = some (.bool f.disc) := z18.cell' (i := 7) rfl
      have p8 : W9.cell? ⟨W8.heap.size, 8, none⟩ = some (.int .i64 f.skip) := z18.cell' (i := 8) rfl
      have p9 : W9.cell? ⟨W8.heap.size, 9, none⟩ = some (.int .i64 f.red) := z18.cell' (i := 9) rfl
      have pl := z18.lt
      have hq := fun W => eqFlg f W
      clear z6 z11 z18 h9
      go_wp2_with (fail)
      go_ret
      exact ⟨rfl, H9.out⟩
end Go.Proofs.YtlipjagdlpkjpaaDoor
