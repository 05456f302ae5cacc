/-
  FlagBack, walked; conditions: the two tables lie as they are laid, a variable of the library is an int.
-/
import Derived.Test.YtlipjagdlpkjpaaDoorFtKn
import Derived.Test.YtlipjagdlpkjpaaDoorFtMd
import Derived.Test.YtlipjagdlpkjpaaDoorFtNs
namespace Go.Proofs.YtlipjagdlpkjpaaDoor
open Go.RowKit Go.Joins
set_option linter.unusedVariables false
set_option linter.unusedSimpArgs false

theorem names_size (s : ByteArray) : ∀ k, ∀ x ∈ (namesK s k).1, x.size ≤ s.size := by
  intro k
  induction k with
  | zero => intro x hx; cases hx
  | succ k ih =>
    intro x hx
    unfold namesK at hx
    split at hx
    · rcases List.mem_append.1 hx with h | h
      · exact ih x h
      · obtain rfl := List.mem_singleton.1 h
        rw [ByteArray.size_extract]; omega
    · exact ih x hx
theorem rot_len (l : List ByteArray) (o : Nat) : (rotL l o).length = l.length := by unfold rotL; simp
theorem rot_at {l : List ByteArray} {o k : Nat} (h : k < l.length) : (rotL l o).getD k ⟨#[]⟩ = l.getD ((k + o) % l.length) ⟨#[]⟩ := by
  unfold rotL
  rw [List.getD_eq_getElem?_getD, List.getElem?_map, List.getElem?_range h]; rfl
theorem rot_size {l : List ByteArray} {n o : Nat} (h : ∀ x ∈ l, x.size ≤ n) : ∀ x ∈ rotL l o, x.size ≤ n := by
  intro x hx
  unfold rotL at hx
  obtain ⟨i, _, rfl⟩ := List.mem_map.1 hx
  rw [List.getD_eq_getElem?_getD]
  cases e : l[(i + o) % l.length]? with
  | none => exact Nat.zero_le _
  | some y => exact h y (List.mem_of_getElem? e)
def BkRel (f : Flg) (l R : List ByteArray) (wv : ByteArray) (B6 : Nat) (v : Value) (w : World) (fv tv iv : Value) (wr : World) : Prop :=
  ∃ k : Nat, k ≤ l.length ∧ iv = .int .i64 (k : Int) ∧ tv = .string (growT R k) ∧ fv = .bool (foundK R wv k) ∧ wr.ownsRow w.heap.size 9 1 v l.length (l.map .string) ∧ Blk wr B6 24 #[Value.bool f.last, .bool f.next, .bool f.chain, .bool f.fin, .bool f.forb, .bool f.gone, .bool f.app, .bool f.disc, .int .i64 f.skip, .int .i64 f.red] ∧ Below w.heap.size w wr

set_option maxRecDepth 100000 in
set_option maxHeartbeats 4000000 in
theorem law_back (n turn : Int) (hn : -9223372036854775808 ≤ n ∧ n ≤ 9223372036854775807) (ht : -9223372036854775808 ≤ turn ∧ turn ≤ 9223372036854775807) (w : World) (hT : Tabs w) (hm : MaxOk w) :
    Calls Tryd.prog 7 #[.int .i64 n, .int .i64 turn] w fun e W' => e = .returned (.bool true) ∧ Below w.heap.size w W' := by
  have HT := Lib.hid (And.intro hT (And.intro hm (And.intro hn ht)))
  clear hT hm hn ht
  go_enter Tryd.func7, Tryd.ntmps7
  go_wp2_with (fail)
  refine (law_known _ HT.out.1 HT.out.2.1).mono ?_
  rintro e W1 ⟨rfl, h1⟩
  have H1 := Lib.hid h1
  clear h1
  go_wp2_with (fail)
  obtain ⟨i, a, b, hi, hab, hmade⟩ := lmade n HT.out.2.2.1 W1
  obtain ⟨f, hf⟩ : ∃ f, f = wayF i a b := ⟨_, rfl⟩
  have HG : Hid (∀ o, o < 2 → goodF f o = true) := Lib.hid (fun o ho => by rw [hf]; exact good_of hi hab ho)
  rw [← hf] at hmade
  clear hi hab hf
  refine hmade.mono ?_
  rintro e W2 ⟨rfl, h2⟩
  have hw6 : w.heap.size ≤ W2.heap.size := (gr_call H1.out h2).size
  have K := Lib.hid (And.intro (Blk.new W2 24 #[Value.bool f.last, .bool f.next, .bool f.chain, .bool f.fin, .bool f.forb, .bool f.gone, .bool f.app, .bool f.disc, .int .i64 f.skip, .int .i64 f.red]) (gr_alloc (gr_call H1.out h2) (.cells #[Value.bool f.last, .bool f.next, .bool f.chain, .bool f.fin, .bool f.forb, .bool f.gone, .bool f.app, .bool f.disc, .int .i64 f.skip, .int .i64 f.red] 24)))
  have HP := Lib.hid (good_parts (HG.out 0 (by decide)))
  have HF : Hid (FlgOk f) := Lib.hid (by
    obtain ⟨z1, z2, z3, _⟩ := chkF_zero HP.out.1
    refine ⟨by omega, ?_⟩
    by_cases h0 : f.red = 0
    · rw [h0]; decide
    · have := red_bounds f.red (by rw [beq_eq_false_iff_ne.2 h0] at z3; simpa using z3)
      omega)
  clear hmade h2
  obtain ⟨tx, htx⟩ : ∃ tx, tx = textV f := ⟨_, rfl⟩
  obtain ⟨wv, hwv⟩ : ∃ wv, wv = endsV f := ⟨_, rfl⟩
  have HV := Lib.hid (And.intro htx hwv)
  have htz : tx.size ≤ 20 := by rw [htx]; exact HP.out.2.2.1
  have hwz : wv.size ≤ 102 := by rw [hwv]; exact endsV_size f
  clear htx hwv
  go_wp2_with (fail)
  refine (ftext f HF.out.1 _ (HT.out.1.below K.out.2 (Nat.le_refl _)) (HT.out.2.1.below K.out.2 (Nat.le_refl _))).mono ?_
  rintro e W3 ⟨rfl, h3⟩
  rw [← HV.out.1, HP.out.1]
  have K3 := Lib.hid (And.intro (K.out.1.call h3) (gr_call K.out.2 h3))
  clear h3
  have k0 : W3.cell? ⟨W2.heap.size, 0, none⟩ = some (.bool f.last) := K3.out.1.cell' (i := 0) rfl
  have k1 : W3.cell? ⟨W2.heap.size, 1, none⟩ = some (.bool f.next) := K3.out.1.cell' (i := 1) rfl
  have k2 : W3.cell? ⟨W2.heap.size, 2, none⟩ = some (.bool f.chain) := K3.out.1.cell' (i := 2) rfl
  have k3 : W3.cell? ⟨W2.heap.size, 3, none⟩ = some (.bool f.fin) := K3.out.1.cell' (i := 3) rfl
  have k4 : W3.cell? ⟨W2.heap.size, 4, none⟩ = some (.bool f.forb) := K3.out.1.cell' (i := 4) rfl
  have k5 : W3.cell? ⟨W2.heap.size, 5, none⟩ = some (.bool f.gone) := K3.out.1.cell' (i := 5) rfl
  have k6 : W3.cell? ⟨W2.heap.size, 6, none⟩ = some (.bool f.app) := K3.out.1.cell' (i := 6) rfl
  have k7 : W3.cell? ⟨W2.heap.size, 7, none⟩ = some (.bool f.disc) := K3.out.1.cell' (i := 7) rfl
  have k8 : W3.cell? ⟨W2.heap.size, 8, none⟩ = some (.int .i64 f.skip) := K3.out.1.cell' (i := 8) rfl
  have k9 : W3.cell? ⟨W2.heap.size, 9, none⟩ = some (.int .i64 f.red) := K3.out.1.cell' (i := 9) rfl
  have kl := K3.out.1.lt
  go_wp2_with (fail)
  refine (fends f HF.out.1 _ (HT.out.1.below K3.out.2 (Nat.le_refl _))).mono ?_
  rintro e W4 ⟨rfl, h4⟩
  rw [← HV.out.2, HP.out.1]
  have K4 := Lib.hid (And.intro (K3.out.1.call h4) (gr_call K3.out.2 h4))
  clear h4
  clear k0 k1 k2 k3 k4 k5 k6 k7 k8 k9 kl
  have k0 : W4.cell? ⟨W2.heap.size, 0, none⟩ = some (.bool f.last) := K4.out.1.cell' (i := 0) rfl
  have k1 : W4.cell? ⟨W2.heap.size, 1, none⟩ = some (.bool f.next) := K4.out.1.cell' (i := 1) rfl
  have k2 : W4.cell? ⟨W2.heap.size, 2, none⟩ = some (.bool f.chain) := K4.out.1.cell' (i := 2) rfl
  have k3 : W4.cell? ⟨W2.heap.size, 3, none⟩ = some (.bool f.fin) := K4.out.1.cell' (i := 3) rfl
  have k4 : W4.cell? ⟨W2.heap.size, 4, none⟩ = some (.bool f.forb) := K4.out.1.cell' (i := 4) rfl
  have k5 : W4.cell? ⟨W2.heap.size, 5, none⟩ = some (.bool f.gone) := K4.out.1.cell' (i := 5) rfl
  have k6 : W4.cell? ⟨W2.heap.size, 6, none⟩ = some (.bool f.app) := K4.out.1.cell' (i := 6) rfl
  have k7 : W4.cell? ⟨W2.heap.size, 7, none⟩ = some (.bool f.disc) := K4.out.1.cell' (i := 7) rfl
  have k8 : W4.cell? ⟨W2.heap.size, 8, none⟩ = some (.int .i64 f.skip) := K4.out.1.cell' (i := 8) rfl
  have k9 : W4.cell? ⟨W2.heap.size, 9, none⟩ = some (.int .i64 f.red) := K4.out.1.cell' (i := 9) rfl
  have kl := K4.out.1.lt
  go_wp2_with (fail)
  refine (fstill f HF.out.1 _ (HT.out.1.below K4.out.2 (Nat.le_refl _))).mono ?_
  rintro e W5 ⟨rfl, h5⟩
  rw [HP.out.1]
  have hb0 := beq_lit wv []
  have hb1 := beq_lit wv [67]
  have hst : stillB f = (decide (wv = ⟨#[]⟩) || decide (wv = ⟨#[67]⟩)) := by unfold stillB; rw [decide_eq_true HP.out.1, HV.out.2, Bool.true_and]
  obtain ⟨x0, hx0⟩ : ∃ x, x = decide (wv = ⟨#[]⟩) := ⟨_, rfl⟩
  obtain ⟨x1, hx1⟩ : ∃ x, x = decide (wv = ⟨#[67]⟩) := ⟨_, rfl⟩
  rw [show decide (wv = ⟨([] : List UInt8).toArray⟩) = x0 from hx0.symm] at hb0
  rw [show decide (wv = ⟨([67] : List UInt8).toArray⟩) = x1 from hx1.symm] at hb1
  rw [← hx0, ← hx1] at hst
  rw [hst]
  have HX := Lib.hid (And.intro hx0 hx1)
  have K5 := Lib.hid (And.intro (K4.out.1.call h5) (gr_call K4.out.2 h5))
  clear h5 hst hx0 hx1
  clear k0 k1 k2 k3 k4 k5 k6 k7 k8 k9 kl
  have k0 : W5.cell? ⟨W2.heap.size, 0, none⟩ = some (.bool f.last) := K5.out.1.cell' (i := 0) rfl
  have k1 : W5.cell? ⟨W2.heap.size, 1, none⟩ = some (.bool f.next) := K5.out.1.cell' (i := 1) rfl
  have k2 : W5.cell? ⟨W2.heap.size, 2, none⟩ = some (.bool f.chain) := K5.out.1.cell' (i := 2) rfl
  have k3 : W5.cell? ⟨W2.heap.size, 3, none⟩ = some (.bool f.fin) := K5.out.1.cell' (i := 3) rfl
  have k4 : W5.cell? ⟨W2.heap.size, 4, none⟩ = some (.bool f.forb) := K5.out.1.cell' (i := 4) rfl
  have k5 : W5.cell? ⟨W2.heap.size, 5, none⟩ = some (.bool f.gone) := K5.out.1.cell' (i := 5) rfl
  have k6 : W5.cell? ⟨W2.heap.size, 6, none⟩ = some (.bool f.app) := K5.out.1.cell' (i := 6) rfl
  have k7 : W5.cell? ⟨W2.heap.size, 7, none⟩ = some (.bool f.disc) := K5.out.1.cell' (i := 7) rfl
  have k8 : W5.cell? ⟨W2.heap.size, 8, none⟩ = some (.int .i64 f.skip) := K5.out.1.cell' (i := 8) rfl
  have k9 : W5.cell? ⟨W2.heap.size, 9, none⟩ = some (.int .i64 f.red) := K5.out.1.cell' (i := 9) rfl
  have kl := K5.out.1.lt
  go_wp2_with (fail)
  refine (lreads tx f (by omega) (by rw [HV.out.1]; exact HP.out.2.1) _ (HT.out.1.below K5.out.2 (Nat.le_refl _)) (HT.out.2.1.below K5.out.2 (Nat.le_refl _))).mono ?_
  rintro e W6 ⟨rfl, h6⟩
  have K6 := Lib.hid (And.intro (K5.out.1.call h6) (gr_call K5.out.2 h6))
  clear h6
  clear k0 k1 k2 k3 k4 k5 k6 k7 k8 k9 kl
  have hgo : Hid (x0 = x0) := Lib.hid rfl
  cases x0 <;> cases x1
  all_goals
    go_wp2_with (fail)
    refine (lnames tx (by omega) _).mono ?_
    rintro e W7 ⟨v, rfl, hown, h7⟩
    have hown0 := own_weaken hown K6.out.2.size
    obtain ⟨l, hl⟩ : ∃ l, l = namesP tx := ⟨_, rfl⟩
    rw [← hl] at hown0
    have hl2 : l.length ≤ 2 := by rw [hl, HV.out.1]; exact HP.out.2.2.2.1
    have K7 := Lib.hid (And.intro (K6.out.1.call h7) (And.intro (gr_call K6.out.2 h7) (And.intro hown0 hl)))
    have hw7 := (gr_call K6.out.2 h7).size
    clear h7 hown hown0 hl
    obtain ⟨va, vc, rfl⟩ := own_slice K7.out.2.2.1
    by_cases h0 : l.length = 0
    · have h1 : ((l.length : Int) == 0) = true := beq_iff_eq.2 (by omega)
      obtain ⟨g1, g2, g3⟩ := HP.out.2.2.2.2.1 (by rw [← HV.out.1, ← K7.out.2.2.2]; exact h0)
      have htb := beq_lit tx []
      rw [decide_eq_true (show tx = ⟨([] : List UInt8).toArray⟩ from HV.out.1.trans g1)] at htb
      have hwb : wv = ⟨#[]⟩ := HV.out.2.trans g2
      have hxx := HX.out.1
      rw [decide_eq_true hwb] at hxx
      have HW := Lib.hid hwb
      clear h0 g1 g2 hwb
      first
        | (exfalso; revert hxx; decide)
        | (clear hxx
           subst g3
           have hbz : Blk W7 W2.heap.size 24 #[Value.bool zeroF.last, .bool zeroF.next, .bool zeroF.chain, .bool zeroF.fin, .bool zeroF.forb, .bool zeroF.gone, .bool zeroF.app, .bool zeroF.disc, .int .i64 zeroF.skip, .int .i64 zeroF.red] := K7.out.1
           have hq := fun W => eqFlg zeroF W
           have z0 : W7.cell? ⟨W2.heap.size, 0, none⟩ = some (.bool false) := hbz.cell' (i := 0) rfl
           have z1 : W7.cell? ⟨W2.heap.size, 1, none⟩ = some (.bool false) := hbz.cell' (i := 1) rfl
           have z2 : W7.cell? ⟨W2.heap.size, 2, none⟩ = some (.bool false) := hbz.cell' (i := 2) rfl
           have z3 : W7.cell? ⟨W2.heap.size, 3, none⟩ = some (.bool false) := hbz.cell' (i := 3) rfl
           have z4 : W7.cell? ⟨W2.heap.size, 4, none⟩ = some (.bool false) := hbz.cell' (i := 4) rfl
           have z5 : W7.cell? ⟨W2.heap.size, 5, none⟩ = some (.bool false) := hbz.cell' (i := 5) rfl
           have z6 : W7.cell? ⟨W2.heap.size, 6, none⟩ = some (.bool false) := hbz.cell' (i := 6) rfl
           have z7 : W7.cell? ⟨W2.heap.size, 7, none⟩ = some (.bool false) := hbz.cell' (i := 7) rfl
           have z8 : W7.cell? ⟨W2.heap.size, 8, none⟩ = some (.int .i64 0) := hbz.cell' (i := 8) rfl
           have z9 : W7.cell? ⟨W2.heap.size, 9, none⟩ = some (.int .i64 0) := hbz.cell' (i := 9) rfl
           have zl := hbz.lt
           clear hbz
           go_wp2_with (fail)
           go_ret
           exact ⟨rfl, K7.out.2.1⟩)
    · have h1 : ((l.length : Int) == 0) = false := beq_eq_false_iff_ne.2 (by omega)
      obtain ⟨o, ho⟩ := Int.eq_ofNat_of_zero_le (Int.emod_nonneg turn (show (l.length : Int) ≠ 0 by omega))
      have hol : o < l.length := by have := Int.emod_lt_of_pos turn (show (0 : Int) < (l.length : Int) by omega); omega
      obtain ⟨R, hR⟩ : ∃ R, R = rotL l o := ⟨_, rfl⟩
      have HPo := Lib.hid (good_parts (HG.out o (by omega)))
      have HR := Lib.hid (And.intro hR (show ∀ x ∈ R, x.size ≤ 102 by rw [hR]; exact rot_size (fun x hx => by have := names_size tx _ x (by rw [K7.out.2.2.2] at hx; exact hx); omega)))
      have HO := Lib.hid (And.intro ho hol)
      have hl0 : 0 < l.length := by omega
      have hf0 : foundK R wv 0 = decide (wv = ⟨#[]⟩) := rfl
      have HF0 := Lib.hid (hf0.trans HX.out.1.symm)
      clear hR h0 ho hf0
      go_wp2_with (fail)
      go_loopw [14, 15, 16] (fun fv tv iv wr => BkRel f l R wv W2.heap.size (.slice va l.length vc) w fv tv iv wr) (fun _ _ iv _ => l.length - (intOf iv).toNat)
      case atStart => exact ⟨0, by omega, rfl, rfl, by rw [HF0.out], K7.out.2.2.1, K7.out.1, K7.out.2.1⟩
      case round =>
        obtain ⟨k, hk, rfl, rfl, rfl, hown, hbf, hbel⟩ := hrel
        have hgs := grow_size HR.out.2 k
        have hbz := hbel.size
        by_cases hlt : k < l.length
        · obtain ⟨g, cap, hgv, hgN, hgl, hgc⟩ := own_form hown hl0
          obtain ⟨rfl, rfl⟩ : va = some ⟨g, 0, none⟩ ∧ vc = cap := by simpa using hgv
          obtain ⟨j, hj⟩ : ∃ j, j = (k + o) % l.length := ⟨_, rfl⟩
          have hjl : j < l.length := by rw [hj]; exact Nat.mod_lt _ hl0
          have hji : ((k : Int) + (o : Int)) % (l.length : Int) = (j : Int) := by
            rw [hj, Int.natCast_emod]
            rw [show ((k + o : Nat) : Int) = (k : Int) + (o : Int) by omega]
          obtain ⟨x, hx⟩ : ∃ x, x = l.getD j ⟨#[]⟩ := ⟨_, rfl⟩
          have hxR : R.getD k ⟨#[]⟩ = x := by rw [HR.out.1, rot_at hlt, hx, hj]
          have hxs : x.size ≤ 102 := by
            rw [← hxR, List.getD_eq_getElem?_getD, List.getElem?_eq_getElem (by rw [HR.out.1, rot_len]; exact hlt)]
            exact HR.out.2 _ (List.getElem_mem _)
          have hg1 : growT R (k + 1) = growT R k ++ (if k = 0 then ⟨#[]⟩ else ⟨#[44]⟩) ++ x := by
            conv => lhs; unfold growT
            rw [hxR]
          have hfn : foundK R wv (k + 1) = (foundK R wv k || decide (x = wv)) := by
            conv => lhs; unfold foundK
            rw [hxR]
          have hcx := hown.cells (g := g) rfl j (.string x) (by rw [List.getElem?_map, hx, List.getD_eq_getElem?_getD, List.getElem?_eq_getElem hjl]; rfl)
          rw [Addr.add_lit, Nat.zero_add] at hcx
          have hxd := str_beq x wv
          obtain ⟨fb, hfb⟩ : ∃ fb, fb = foundK R wv k := ⟨_, rfl⟩
          obtain ⟨tk, htk⟩ : ∃ tk, tk = growT R k := ⟨_, rfl⟩
          obtain ⟨dx, hdx⟩ : ∃ dx, dx = decide (x = wv) := ⟨_, rfl⟩
          rw [← hfb] at hfn ⊢
          rw [← htk] at hg1 hgs ⊢
          rw [← hdx] at hfn hxd
          have H := Lib.hid (And.intro hown (And.intro hbf (And.intro hbel (And.intro hg1 (And.intro hfn (And.intro hcx hji))))))
          have hoi : (o : Int) < (l.length : Int) := by have := HO.out.2; omega
          have htk2 : tk.size ≤ 400 := by omega
          clear hgv hx hxR hg1 hfn hcx hfb htk hdx hown hbf hbel hji hj
          go_wp2_with (fail)
          refine (kmod turn (l.length : Int) _ HT.out.2.2.2 ⟨by omega, by omega⟩).mono ?_
          rintro e W8 ⟨rfl, h8⟩
          rw [HO.out.1]
          have hji := H.out.2.2.2.2.2.2
          have hc : W8.cell? ⟨g, j, none⟩ = some (.string x) := by rw [h8.cell (p := ⟨g, j, none⟩) hgl]; exact H.out.2.2.2.2.2.1
          have hown8 := own_below H.out.1 h8 (Nat.le_refl _)
          have hg8 : g < W8.heap.size := Nat.lt_of_lt_of_le hgl h8.size
          have K8 := Lib.hid (And.intro hown8 (And.intro (H.out.2.1.call h8) (gr_call H.out.2.2.1 h8)))
          clear h8 hown8
          by_cases hk0 : k = 0
          · subst hk0
            have hji0 : (o : Int) % (l.length : Int) = (j : Int) := by
              have h := H.out.2.2.2.2.2.2
              rwa [show ((0 : Nat) : Int) + (o : Int) = (o : Int) by omega] at h
            clear hji
            have hgg : Hid (growT R 1 = tk ++ x) := Lib.hid (by rw [H.out.2.2.2.1, if_pos rfl, show tk ++ (⟨#[]⟩ : ByteArray) = tk by apply str_ext; simp])
            cases fb
            all_goals
              go_wp2_with (fail)
              exact ⟨⟨1, by omega, by go_num, by rw [hgg.out], by rw [H.out.2.2.2.2.1] <;> rfl, K8.out.1, K8.out.2.1, K8.out.2.2⟩, by simp [intOf]; omega⟩
          · have hgg : Hid (growT R (k + 1) = tk ++ (⟨#[44]⟩ : ByteArray) ++ x) := Lib.hid (by rw [H.out.2.2.2.1, if_neg hk0])
            have hkp : (0 : Int) < (k : Int) := by omega
            clear hk0
            cases fb
            all_goals
              go_wp2_with (fail)
              exact ⟨⟨k + 1, by omega, by go_num, by rw [hgg.out], by rw [H.out.2.2.2.2.1] <;> rfl, K8.out.1, K8.out.2.1, K8.out.2.2⟩, by simp [intOf]; omega⟩
        · obtain rfl : k = l.length := by omega
          have hne : (namesP (textV f)).length ≠ 0 := by rw [← HV.out.1, ← K7.out.2.2.2]; omega
          have hpo := HPo.out.2.2.2.2.2.1 hne
          rw [← HV.out.1, ← HV.out.2, ← K7.out.2.2.2, ← HR.out.1] at hpo
          have HQ := Lib.hid (And.intro hpo.1 (And.intro hbf hbel))
          rw [hpo.2]
          obtain ⟨tk, htk⟩ : ∃ tk, tk = growT R l.length := ⟨_, rfl⟩
          have HTK := Lib.hid htk
          rw [← htk] at hgs ⊢
          have htk2 : tk.size ≤ 400 := by omega
          have hsz : (tk ++ (⟨#[93]⟩ : ByteArray)).size ≤ 1000000 := by rw [ByteArray.size_append]; show tk.size + 1 ≤ _; omega
          clear hown hpo htk
          have k0 : wr.cell? ⟨W2.heap.size, 0, none⟩ = some (.bool f.last) := hbf.cell' (i := 0) rfl
          have k1 : wr.cell? ⟨W2.heap.size, 1, none⟩ = some (.bool f.next) := hbf.cell' (i := 1) rfl
          have k2 : wr.cell? ⟨W2.heap.size, 2, none⟩ = some (.bool f.chain) := hbf.cell' (i := 2) rfl
          have k3 : wr.cell? ⟨W2.heap.size, 3, none⟩ = some (.bool f.fin) := hbf.cell' (i := 3) rfl
          have k4 : wr.cell? ⟨W2.heap.size, 4, none⟩ = some (.bool f.forb) := hbf.cell' (i := 4) rfl
          have k5 : wr.cell? ⟨W2.heap.size, 5, none⟩ = some (.bool f.gone) := hbf.cell' (i := 5) rfl
          have k6 : wr.cell? ⟨W2.heap.size, 6, none⟩ = some (.bool f.app) := hbf.cell' (i := 6) rfl
          have k7 : wr.cell? ⟨W2.heap.size, 7, none⟩ = some (.bool f.disc) := hbf.cell' (i := 7) rfl
          have k8 : wr.cell? ⟨W2.heap.size, 8, none⟩ = some (.int .i64 f.skip) := hbf.cell' (i := 8) rfl
          have k9 : wr.cell? ⟨W2.heap.size, 9, none⟩ = some (.int .i64 f.red) := hbf.cell' (i := 9) rfl
          have kl := hbf.lt
          clear hbf hbel
          go_wp2_with (fail)
          refine (lreads (tk ++ (⟨#[93]⟩ : ByteArray)) f hsz (by rw [HTK.out]; exact HQ.out.1) _ (HT.out.1.below HQ.out.2.2 (Nat.le_refl _)) (HT.out.2.1.below HQ.out.2.2 (Nat.le_refl _))).mono ?_
          rintro e W9 ⟨rfl, h9⟩
          have H9 := Lib.hid (gr_call HQ.out.2.2 h9)
          clear h9
          go_wp2_with (fail)
          go_ret
          exact ⟨rfl, H9.out⟩
end Go.Proofs.YtlipjagdlpkjpaaDoor
