/-
  slices.Grow and slices.Concat of numbers, joined, scc.Reach and scc.Order, walked; conditions: at most 1000000 edges.
-/
import Derived.Test.YtjgkiiohbceocaaScQ
import Derived.Lib.AppendZeros
namespace Go.Proofs.Ytjgkiiohbceocaa
open Go.RowKit
set_option linter.unusedVariables false
set_option linter.unusedSimpArgs false

theorem ownN_nil (W : World) (B : Nat) : OwnN W B (.slice none 0 0) [] := World.ownsRow_nil _ _ _ _
theorem made_owns {W : World} {B : Nat} {cs : Array Value} {cap : Nat} (hB : B ≤ W.heap.size) (hc : cs.size = cap) (hm : cap ≤ maxLen) : OwnN (W.alloc (.cells cs 3)) B (.slice (some ⟨W.heap.size, 0, none⟩) 0 cap) [] :=
  ⟨rfl, .inr ⟨W.heap.size, cap, cs, rfl, hB, heap_alloc_new W _, Nat.zero_le _, hm, by omega, by simp [natC]⟩⟩

set_option maxRecDepth 100000 in
set_option maxHeartbeats 1000000 in
theorem grow_code (n : Nat) (hn : n ≤ 1000000) (w : World) :
    Calls Try.prog 68 #[.slice none 0 0, .int .i64 (n : Int)] w fun e w' => ∃ v, e = .returned v ∧ OwnN w' w.heap.size v [] ∧ Below w.heap.size w w' := by
  by_cases h0 : n = 0
  · subst h0
    go_enter Try.func68, Try.ntmps68
    go_wp2_with (fail)
    go_ret
    exact ⟨_, rfl, ownN_nil _ _, Below.refl _ _⟩
  · have hn0 : 0 < (n : Int) := by omega
    have hn1 : ¬ (n : Int) < 0 := by omega
    obtain ⟨i, hi, hz0, hz1, hz2⟩ := info_parts infoInt
    have hr := Lib.run_append_nil_zeros (P := Try.prog) w 25 3 25 3 i (.int .i64 0) .i64 .i64 Try.underlying25 Try.underlying3 hi hz0 n (by omega) (by omega) (by omega) (by rw [hz2]; omega)
    have hg1 := grownCap_ge w n 0 3
    have hg2 := grownCap_le_maxLen w n 0 3 (by unfold maxLen; omega)
    obtain ⟨cap, hcap⟩ : ∃ cap, cap = grownCap w n 0 3 := ⟨_, rfl⟩
    rw [← hcap] at hr hg1 hg2
    obtain ⟨cs, hcs⟩ : ∃ cs, cs = Builtin.zeroCells (Value.int .i64 0).cells n ++ Builtin.zeroCells (Value.int .i64 0).cells (cap - n) := ⟨_, rfl⟩
    rw [← hcs] at hr
    have hsz : cs.size = cap := by
      rw [hcs, Array.size_append, size_zeroCells, size_zeroCells]
      show n * 1 + (cap - n) * 1 = cap
      omega
    have hgi : (0 : Int) ≤ (cap : Int) := by omega
    have K := Lib.hid (And.intro hg1 (And.intro hg2 (And.intro hsz hcap)))
    have hR := Lib.hid hr
    clear hcs hcap hr hg1 hg2 hsz h0
    go_enter Try.func68, Try.ntmps68
    go_wp2_with (at_builtin; refine Lib.wpList_append_run _ rfl _ _ 25 3 rfl _ _ rfl rfl _ _ hR.out ?_)
    go_ret
    exact ⟨_, rfl, made_owns (W := w) (Nat.le_refl _) K.out.2.2.1 K.out.2.1, gr_drew (gr_alloc (Below.refl _ _) _)⟩

/-- append of a list of nodes that lies there. -/
theorem app_nats {w : World} {ops : Array Oper} {rest : List Oper} {o : Oper} {a : Act} {Q : Exit → Act → World → Prop} (hgd : o.guard = none) (s x : Operand)
    (ho : o.op = .call { callee := .builtin .append, args := #[s, x], argTypes := #[25, 25] }) (base : Nat)
    (v : Value) (l m : List Nat) (hs : a.eval s = v) (hown : OwnN w base v l) (u : Value) (hx : a.eval x = u) (hu : NatsAt w u m) (hm : m ≠ []) (hlen : l.length + m.length ≤ 1000000) (hbase : base ≤ w.heap.size)
    (h : ∀ v' w', OwnN w' base v' (l ++ m) → w.grownBy w' v.ownBlock → wpList Try.prog ops Q rest (a.put o.dst v') w') : wpList Try.prog ops Q (o :: rest) a w := by
  obtain ⟨i, hi, hz0, hz1, hz2⟩ := info_parts infoInt
  obtain ⟨A, c, hA, hex⟩ := hu.ex
  obtain ⟨g, off, rfl, hg, hc⟩ := hex hm
  subst hA
  refine wpList_append_own (w := w) hgd s x 25 ho base 3 i (.int .i64 0) 1 8 Try.underlying25 hi hz0 hz1 hz2 rfl (by decide) v l.length (natC l) hs hown ⟨g, off, none⟩ m.length c (natC m) hx (by rw [natC_len]; omega) ?_ ?_ (by unfold maxLen; omega) (by omega) hbase (fun v' w' h1 h2 _ => h v' w' ?_ h2)
  · intro j y hj
    rw [Addr.add_mid]
    unfold natC at hj
    rw [List.getElem?_map] at hj
    cases e : m[j]? with
    | none => rw [e] at hj; cases hj
    | some z =>
      rw [e] at hj
      simp only [Option.map_some, Option.some.injEq] at hj
      subst hj
      exact hc j z e
  · intro y hy
    obtain ⟨z, _, rfl⟩ := List.mem_map.1 hy
    rfl
  · unfold OwnN
    rw [List.length_append, show natC (l ++ m) = natC l ++ natC m by simp [natC]]
    exact h1
def sumL (ls : List (List Nat)) : Nat := (ls.map List.length).sum
theorem sumL_take {ls : List (List Nat)} {i : Nat} {l : List Nat} (h : ls[i]? = some l) : sumL (ls.take (i + 1)) = sumL (ls.take i) + l.length := by
  unfold sumL
  rw [List.take_add_one, h, List.map_append, List.sum_append]
  simp
theorem flat_take {ls : List (List Nat)} {i : Nat} {l : List Nat} (h : ls[i]? = some l) : (ls.take (i + 1)).flatten = (ls.take i).flatten ++ l := by
  rw [List.take_add_one, h, List.flatten_append]
  simp
theorem flat_len (ls : List (List Nat)) : ls.flatten.length = sumL ls := by
  unfold sumL; rw [List.length_flatten]
theorem sumL_le {ls : List (List Nat)} {B : Nat} (h : ∀ l ∈ ls, l.length ≤ B) : sumL ls ≤ ls.length * B := by
  induction ls with
  | nil => simp [sumL]
  | cons a ls ih =>
    have h1 := h a (by simp)
    have h2 := ih fun l hl => h l (by simp [hl])
    unfold sumL at h2 ⊢
    rw [List.map_cons, List.sum_cons, List.length_cons, Nat.succ_mul]
    omega
theorem sumL_take_le (ls : List (List Nat)) (i : Nat) : sumL (ls.take i) ≤ sumL ls := by
  have h : sumL ls = sumL (ls.take i) + sumL (ls.drop i) := by
    unfold sumL
    rw [← List.sum_append, ← List.map_append, List.take_append_drop]
  omega

set_option maxRecDepth 100000 in
set_option maxHeartbeats 4000000 in
theorem concat_code (ls : List (List Nat)) (hls : ls.length ≤ 1000) (hne : ∀ l ∈ ls, l ≠ []) (hs : sumL ls ≤ 100000) (v : Value) (w : World) (hv : LLAt w v ls) :
    Calls Try.prog 65 #[v] w fun e w' => ∃ u, e = .returned u ∧ OwnN w' w.heap.size u ls.flatten ∧ Below w.heap.size w w' := by
  obtain ⟨A, c, rfl, hA⟩ := hv.ex
  obtain ⟨n, hn⟩ : ∃ n, n = ls.length := ⟨_, rfl⟩
  have H := Lib.hid (And.intro hA (And.intro hne (And.intro hs hn)))
  rw [← hn] at hls ⊢
  clear hA hne hs hv hn
  go_enter Try.func65, Try.ntmps65
  go_wp2_with (fail)
  go_loopw [11, 3] (fun iv sv wr => ∃ i : Nat, i ≤ n ∧ iv = .int .i64 (i : Int) ∧ sv = .int .i64 ((sumL (ls.take i) : Nat) : Int) ∧ w = wr) (fun iv _ _ => n - (intOf iv).toNat)
  case atStart => exact ⟨0, Nat.zero_le _, rfl, rfl, rfl⟩
  case round =>
    obtain ⟨i, hi, rfl, rfl, rfl⟩ := hrel
    by_cases hin : i < n
    · obtain ⟨l, hl⟩ : ∃ l, ls[i]? = some l := ⟨_, List.getElem?_eq_getElem (by rw [← H.out.2.2.2]; exact hin)⟩
      obtain ⟨g, rfl, hg, hc⟩ := H.out.1 (fun e => by rw [e] at hl; simp at hl)
      obtain ⟨u, cu, ⟨Au, cc, rfl, _⟩⟩ := hc i l hl
      have hst := sumL_take hl
      have hbd := sumL_take_le ls (i + 1)
      have hbs := H.out.2.2.1
      obtain ⟨x, hx⟩ : ∃ x, x = sumL (ls.take i) := ⟨_, rfl⟩
      obtain ⟨y, hy⟩ : ∃ y, y = l.length := ⟨_, rfl⟩
      rw [← hy] at cu
      rw [← hx, ← hy] at hst
      rw [← hx]
      have hi' : (i : Int) < (n : Int) := by omega
      have hxy : x + y ≤ 100000 := by omega
      have h0 : ¬ ((x : Int) + (y : Int)) < 0 := by omega
      have B := Lib.hid (And.intro hst hg)
      clear hst hbd hbs hx hy hc hl
      go_wp2_with (fail)
      go_roundw
      case rel => exact ⟨i + 1, hin, rfl, by rw [B.out.1]; simp, by first | rfl | trivial⟩
      case measure => simp [intOf]; omega
    · have ei : i = n := by omega
      subst i
      have hsx : sumL (ls.take n) ≤ 1000000 := by have := sumL_take_le ls n; have := H.out.2.2.1; omega
      clear hin
      go_wp2_with (fail)
      refine (grow_code _ hsx w).mono ?_
      rintro e W1 ⟨v1, rfl, h1, h2⟩
      have D := Lib.hid (And.intro h1 h2)
      clear h1 h2
      go_wp2_with (fail)
      go_loopw [27, 6] (fun iv ov wr => ∃ i : Nat, i ≤ n ∧ iv = .int .i64 (i : Int) ∧ OwnN wr w.heap.size ov (ls.take i).flatten ∧ Below w.heap.size w wr) (fun iv _ _ => n - (intOf iv).toNat)
      case atStart => exact ⟨0, Nat.zero_le _, rfl, D.out.1, D.out.2⟩
      case round =>
        obtain ⟨i, hi, rfl, hown, hbel⟩ := hrel
        by_cases hin : i < n
        · obtain ⟨l, hl⟩ : ∃ l, ls[i]? = some l := ⟨_, List.getElem?_eq_getElem (by rw [← H.out.2.2.2]; exact hin)⟩
          obtain ⟨g, rfl, hg, hc⟩ := H.out.1 (fun e => by rw [e] at hl; simp at hl)
          obtain ⟨u, cu, hu⟩ := hc i l hl
          have hun := hu.below hbel
          obtain ⟨Au, cc, rfl, _⟩ := hu.ex
          have cu' := (hbel.cell (p := ⟨g, i, none⟩) hg).trans cu
          have hg' := Nat.lt_of_lt_of_le hg hbel.size
          have hi' : (i : Int) < (n : Int) := by omega
          have hlen : (ls.take i).flatten.length + l.length ≤ 1000000 := by
            rw [flat_len, ← sumL_take hl]
            have := sumL_take_le ls (i + 1)
            have := H.out.2.2.1
            omega
          have hln := H.out.2.1 l (List.mem_of_getElem? hl)
          have B := Lib.hid (And.intro hown (And.intro hbel (And.intro hl (And.intro hun (And.intro hln hlen)))))
          clear hown hbel hl hun hln hlen hc cu hu
          go_wp2_with (at_builtin; refine app_nats rfl _ _ rfl w.heap.size _ (ls.take i).flatten l rfl B.out.1 _ rfl B.out.2.2.2.1 B.out.2.2.2.2.1 B.out.2.2.2.2.2 B.out.2.1.size ?_)
          intro v' w2 hown' hgrow
          have F := Lib.hid (And.intro hown' (B.out.2.1.grown hgrow B.out.2.1.size (fun q hq => (B.out.1.lt q hq).1)))
          clear hown' hgrow
          go_wp2_with (fail)
          go_roundw
          case rel => exact ⟨i + 1, hin, rfl, by rw [flat_take B.out.2.2.1]; exact F.out.1, F.out.2⟩
          case measure => simp [intOf]; omega
        · have ei : i = n := by omega
          subst i
          rw [List.take_of_length_le (by rw [← H.out.2.2.2]; exact Nat.le_refl _)] at hown
          have B := Lib.hid (And.intro hown hbel)
          clear hown hbel hin
          go_wp2_with (fail)
          go_ret
          exact ⟨_, rfl, B.out.1, B.out.2⟩

set_option maxRecDepth 100000 in
set_option maxHeartbeats 1000000 in
theorem joined_code (ls : List (List Nat)) (hls : ls.length ≤ 1000) (hne : ∀ l ∈ ls, l ≠ []) (hs : sumL ls ≤ 100000) (v : Value) (w : World) (hv : LLAt w v ls) :
    Calls Try.prog 50 #[v] w fun e w' => ∃ u, e = .returned u ∧ OwnN w' w.heap.size u ls.flatten ∧ Below w.heap.size w w' := by
  have hcc := concat_code ls hls hne hs v w hv
  obtain ⟨A, c, rfl, _⟩ := hv.ex
  obtain ⟨fl, hfl⟩ : ∃ fl, fl = ls.flatten := ⟨_, rfl⟩
  rw [← hfl] at hcc ⊢
  clear hfl
  have H := Lib.hid hcc
  clear hcc hv hne hs
  go_enter Try.func50, Try.ntmps50
  go_wp2_with (fail)
  refine H.out.mono ?_
  rintro e W1 ⟨u, rfl, h1, h2⟩
  obtain ⟨ua, uc, rfl⟩ := own_slice h1
  have D := Lib.hid (And.intro h1 h2)
  clear h1 h2
  go_wp2_with (fail)
  go_ret
  exact ⟨_, rfl, D.out.1, D.out.2⟩

/-- Whether a node below i reaches itself; what a node reaches below i. -/
def lpT (R : Nat → Nat → Bool) (i : Nat) : Bool := (List.range i).any fun i => R i i
theorem lpT_succ (R : Nat → Nat → Bool) (i : Nat) (h : lpT R i = false) : lpT R (i + 1) = R i i := by
  unfold lpT at h ⊢
  rw [List.range_succ, List.any_append, h, Bool.false_or]
  simp
theorem lpT_in {R : Nat → Nat → Bool} {i m : Nat} (hi : i < m) (h : R i i = true) : lpT R m = true := List.any_eq_true.2 ⟨i, List.mem_range.2 hi, h⟩
def rchT (R : Nat → Nat → Bool) (k i : Nat) : List Nat := (List.range i).filter fun i => R k i
theorem rchT_succ (R : Nat → Nat → Bool) (k i : Nat) : rchT R k (i + 1) = if R k i = true then rchT R k i ++ [i] else rchT R k i := by
  unfold rchT
  rw [List.range_succ, List.filter_append, List.filter_cons, List.filter_nil]
  split
  · rfl
  · rw [List.append_nil]
theorem rchT_len (R : Nat → Nat → Bool) (k i : Nat) : (rchT R k i).length ≤ i := by
  unfold rchT
  exact Nat.le_trans (List.length_filter_le _ _) (by simp)
def eOrder (n : Int) (l : List Edg) : Int := if (chkG n l).1 = 0 then (if lpT (rR n l) n.toNat = true then 16 else 0) else (chkG n l).1
def vOrder (n : Int) (l : List Edg) : List Nat := if eOrder n l = 0 then (pV n l).flatten else []

set_option maxRecDepth 100000 in
set_option maxHeartbeats 4000000 in
theorem order_code (n : Int) (l : List Edg) (hl : l.length ≤ 1000000) (A : Option Addr) (c : Nat) (w : World) (hA : Cells w A 2 l.length (edAt l)) :
    Calls Try.prog 29 #[.agg #[.int .i64 n, .slice A l.length c]] w fun e w' => ∃ v, e = .returned (.tuple #[v, .int .i64 (eOrder n l)]) ∧ NatsAt w' v (vOrder n l) ∧ Below w.heap.size w w' := by
  have b0 := gr_alloc (Below.refl w.heap.size w) (.cells #[.int .i64 n, .slice A l.length c] 24)
  have hA0 := hA.below b0
  by_cases he : (chkG n l).1 = 0
  · have hE : eOrder n l = if lpT (rR n l) n.toNat = true then 16 else 0 := by unfold eOrder; rw [if_pos he]
    obtain ⟨m, rfl, hm, hv, hw, ht⟩ := ok_nat he
    have hmd := made_code m hm l hl hv he A c _ hA0
    have hR : rR (m : Int) l = rea m (relE l) := by unfold rR; rw [Int.toNat_natCast]
    have hP : pV (m : Int) l = partsV m (rea m (relE l)) := by unfold pV; rw [hR, Int.toNat_natCast]
    rw [hR, Int.toNat_natCast] at hE
    have hV : vOrder (m : Int) l = if eOrder (m : Int) l = 0 then (partsV m (rea m (relE l))).flatten else [] := by unfold vOrder; rw [hP]
    have H := Lib.hid b0
    clear b0 hA0 hA
    obtain ⟨ln, hln⟩ : ∃ ln, ln = l.length := ⟨_, rfl⟩
    rw [← hln] at hmd H ⊢
    have hpw := parts_what ht hm
    have hm' : (m : Int) ≤ 64 := by omega
    have M := Lib.hid (And.intro hmd hpw)
    have HE := Lib.hid (And.intro hE hV)
    clear hmd he hln hl hv hpw hR hP hw ht hE hV
    go_enter Try.func29, Try.ntmps29
    go_wp2_with (fail)
    refine M.out.1.mono ?_
    rintro e W1 ⟨bg, bl, pv, kv, rfl, h1, h2⟩
    have hga := h1.at_
    have c1 := h1.gr.gr.cell' (i := 1) rfl
    have c0 := h1.gr.gr.cell' (i := 0) rfl
    have c2 := h1.gr.gr.cell' (i := 2) rfl
    have lg := h1.gr.gr.lt
    have D := Lib.hid (And.intro hga (gr_call H.out h2))
    clear h1 h2 hga
    go_wp2_with (fail)
    go_loopg [19] m (fun q iv wr => ∃ i : Nat, q = m - i ∧ i ≤ m ∧ iv = .int .i64 (i : Int) ∧ lpT (rea m (relE l)) i = false ∧ W1 = wr)
    case atStart => exact ⟨0, rfl, Nat.zero_le _, rfl, rfl, rfl⟩
    case round =>
      obtain ⟨i, hq, hi, rfl, hno, rfl⟩ := hrel
      by_cases him : i < m
      · have hi6 : i < 64 := by omega
        have him' : (i : Int) < (m : Int) := by omega
        have hgo := goes_code bl 79 _ (rea m (relE l)) i i W1 D.out.1.gr.ln (lnkC_reach (relE l) (rea m (relE l)) hi6) hi6 hi6
        have hst := lpT_succ (rea m (relE l)) i hno
        have B := Lib.hid (And.intro hgo (And.intro hq hst))
        clear hgo hno hst hq
        go_wp2_with (fail)
        refine B.out.1.mono ?_
        rintro e W2 ⟨rfl, rfl⟩
        cases hr : rea m (relE l) i i with
        | true =>
          have F := Lib.hid hr
          clear hr
          go_wp2_with (fail)
          go_ret2
          have e1 : eOrder (m : Int) l = 16 := by rw [HE.out.1, lpT_in him F.out]; rfl
          have e2 : vOrder (m : Int) l = [] := by rw [HE.out.2, e1, if_neg (by decide)]
          rw [e1, e2]
          exact ⟨_, rfl, NatsAt.nil _, D.out.2⟩
        | false =>
          have F := Lib.hid hr
          clear hr
          go_wp2_with (fail)
          go_roundg (m - (i + 1))
          case measure => have := B.out.2.1; omega
          case rel => exact ⟨i + 1, rfl, him, rfl, B.out.2.2.trans F.out, rfl⟩
      · have ei : i = m := by omega
        subst i
        have hjo := joined_code (partsV m (rea m (relE l))) (by have := M.out.2.1; omega) (fun q hq => (M.out.2.2 q hq).1) (Nat.le_trans (sumL_le (B := 64) fun q hq => (M.out.2.2 q hq).2.1) (Nat.le_trans (Nat.mul_le_mul_right 64 M.out.2.1) (by decide))) pv W1 D.out.1.ll
        have B := Lib.hid (And.intro hjo hno)
        clear hjo hno him hq
        go_wp2_with (fail)
        refine B.out.1.mono ?_
        rintro e W2 ⟨u, rfl, h1, h2⟩
        have F := Lib.hid (And.intro h1 h2)
        clear h1 h2
        go_wp2_with (fail)
        go_ret2
        have e1 : eOrder (m : Int) l = 0 := by rw [HE.out.1, B.out.2]; rfl
        have e2 : vOrder (m : Int) l = (partsV m (rea m (relE l))).flatten := by rw [HE.out.2, e1, if_pos rfl]
        rw [e1, e2]
        exact ⟨_, rfl, F.out.1.at_, gr_call D.out.2 F.out.2⟩
  · have hE : eOrder n l = (chkG n l).1 := by unfold eOrder; rw [if_neg he]
    have hV : vOrder n l = [] := by unfold vOrder; rw [hE, if_neg he]
    rw [hV, hE]
    have hmd := made_err n l hl A c _ hA0 he
    obtain ⟨E, hE⟩ : ∃ E, E = (chkG n l).1 := ⟨_, rfl⟩
    obtain ⟨ln, hln⟩ : ∃ ln, ln = l.length := ⟨_, rfl⟩
    rw [← hE] at hmd he ⊢
    rw [← hln] at hmd b0 ⊢
    have H := Lib.hid (And.intro b0 hmd)
    have he' : (E != 0) = true := by simpa using he
    clear b0 hmd hA0 hA hE hln hl he hV
    go_enter Try.func29, Try.ntmps29
    go_wp2_with (fail)
    refine H.out.2.mono ?_
    rintro e W1 ⟨rfl, h1⟩
    have D := Lib.hid (gr_call H.out.1 h1)
    clear h1
    go_wp2_with (fail)
    go_ret2
    exact ⟨_, rfl, NatsAt.nil _, D.out⟩

set_option maxRecDepth 100000 in
set_option maxHeartbeats 4000000 in
theorem reach_code (n : Int) (l : List Edg) (f : Int) (hl : l.length ≤ 1000000) (A : Option Addr) (c : Nat) (w : World) (hA : Cells w A 2 l.length (edAt l)) :
    Calls Try.prog 13 #[.agg #[.int .i64 n, .slice A l.length c], .int .i64 f] w fun e w' => ∃ v, e = .returned (.tuple #[v, .int .i64 (eReach n l f)]) ∧ NatsAt w' v (vReach n l f) ∧ Below w.heap.size w w' := by
  have b0 := gr_alloc (Below.refl w.heap.size w) (.cells #[.int .i64 n, .slice A l.length c] 24)
  have hA0 := hA.below b0
  by_cases he : (chkG n l).1 = 0
  · have hE : eReach n l f = if 0 ≤ f ∧ f < n then 0 else 2 := by unfold eReach; rw [if_pos he]
    obtain ⟨m, rfl, hm, hv, hw, ht⟩ := ok_nat he
    have hmd := made_code m hm l hl hv he A c _ hA0
    have hR : rR (m : Int) l = rea m (relE l) := by unfold rR; rw [Int.toNat_natCast]
    have H := Lib.hid b0
    clear b0 hA0 hA
    obtain ⟨ln, hln⟩ : ∃ ln, ln = l.length := ⟨_, rfl⟩
    rw [← hln] at hmd H ⊢
    have hm' : (m : Int) ≤ 64 := by omega
    by_cases hf : 0 ≤ f ∧ f < (m : Int)
    · obtain ⟨k, rfl⟩ : ∃ k : Nat, f = (k : Int) := ⟨f.toNat, by omega⟩
      rw [if_pos hf] at hE
      have hV : vReach (m : Int) l (k : Int) = rchT (rea m (relE l)) k m := by unfold vReach reachV; rw [hE, if_pos rfl, hR, Int.toNat_natCast, Int.toNat_natCast]; rfl
      rw [hV, hE]
      have hk1 : ¬ (k : Int) < 0 := by omega
      have hk2 : (k : Int) < (m : Int) := hf.2
      have hk7 : ¬ m ≤ k := by omega
      have hk6 : k < 64 := by omega
      have M := Lib.hid hmd
      clear hmd he hln hl hv hR hw ht hE hV hf
      go_enter Try.func13, Try.ntmps13
      go_wp2_with (fail)
      refine M.out.mono ?_
      rintro e W1 ⟨bg, bl, pv, kv, rfl, h1, h2⟩
      have c1 := h1.gr.gr.cell' (i := 1) rfl
      have lg := h1.gr.gr.lt
      have D := Lib.hid (And.intro h1.gr (gr_call H.out h2))
      clear h1 h2
      go_wp2_with (fail)
      go_loopg [32, 8] m (fun q iv ov wr => ∃ i : Nat, q = m - i ∧ i ≤ m ∧ iv = .int .i64 (i : Int) ∧ Below W1.heap.size W1 wr ∧ OwnN wr W1.heap.size ov (rchT (rea m (relE l)) k i))
      case atStart => exact ⟨0, rfl, Nat.zero_le _, rfl, Below.refl _ _, ownN_nil _ _⟩
      case round =>
        obtain ⟨i, hq, hi, rfl, hbel, hown⟩ := hrel
        by_cases him : i < m
        · have hi6 : i < 64 := by omega
          have him' : (i : Int) < (m : Int) := by omega
          have hgr := D.out.1.below hbel D.out.1.gr.lt D.out.1.ln.lt
          have c0 := hgr.gr.cell' (i := 0) rfl
          have lg' := hgr.gr.lt
          have hgo := goes_code bl 79 _ (rea m (relE l)) k i wr hgr.ln (lnkC_reach (relE l) (rea m (relE l)) hk6) hk6 hi6
          have hst := rchT_succ (rea m (relE l)) k i
          have hfl : (rchT (rea m (relE l)) k i).length ≤ 1000000 := by have := rchT_len (rea m (relE l)) k i; omega
          have bz := hbel.size
          have B := Lib.hid (And.intro hgo (And.intro hst (And.intro hbel (And.intro hown (And.intro hfl hq)))))
          clear hgo hst hbel hown hgr hfl hq
          go_wp2_with (fail)
          refine B.out.1.mono ?_
          rintro e W2 ⟨rfl, rfl⟩
          cases hr : rea m (relE l) k i with
          | true =>
            have F := Lib.hid (And.intro hr (And.intro (show (wr.alloc (.cells #[.int .i64 (i : Int)] 3)).cell? ⟨wr.heap.size, 0, none⟩ = some (.int .i64 (i : Int)) from (Blk.new wr 3 #[.int .i64 (i : Int)]).cell' rfl) (own_below B.out.2.2.2.1 (gr_alloc (Below.refl _ _) (.cells #[.int .i64 (i : Int)] 3)) (Nat.le_refl _))))
            clear hr
            go_wp2_with (at_builtin; refine app_one rfl _ _ (t := 25) rfl W1.heap.size Try.underlying25 infoInt rfl (by decide) _ _ _ rfl F.out.2.2 wr.heap.size (.int .i64 (i : Int)) rfl F.out.2.1 rfl B.out.2.2.2.2.1 (by simp; omega) ?_)
            intro v' w2 hown' hgrow _
            have L := Lib.hid (And.intro hown' ((gr_alloc B.out.2.2.1 (.cells #[.int .i64 (i : Int)] 3)).grown hgrow (by simp; omega) (fun q hq => (F.out.2.2.lt q hq).1)))
            clear hown' hgrow
            go_wp2_with (fail)
            go_roundg (m - (i + 1))
            case measure => have := B.out.2.2.2.2.2; omega
            case rel =>
              refine ⟨i + 1, rfl, him, rfl, L.out.2, ?_⟩
              rw [B.out.2.1, if_pos F.out.1]
              unfold OwnN
              rw [natC_snoc, List.length_append]
              exact L.out.1
          | false =>
            have F := Lib.hid hr
            clear hr
            go_wp2_with (fail)
            go_roundg (m - (i + 1))
            case measure => have := B.out.2.2.2.2.2; omega
            case rel => exact ⟨i + 1, rfl, him, rfl, B.out.2.2.1, by rw [B.out.2.1, if_neg (by rw [F.out]; decide)]; exact B.out.2.2.2.1⟩
        · have ei : i = m := by omega
          subst i
          have B := Lib.hid (And.intro hbel hown)
          clear hbel hown him hq
          go_wp2_with (fail)
          go_ret2
          exact ⟨_, rfl, B.out.2.at_, gr_call D.out.2 B.out.1⟩
    · rw [if_neg hf] at hE
      have hV : vReach (m : Int) l f = [] := by unfold vReach; rw [hE, if_neg (by decide)]
      rw [hV, hE]
      have M := Lib.hid hmd
      clear hmd he hln hl hv hR hw ht hE hV
      by_cases h0 : f < 0
      · clear hf
        go_enter Try.func13, Try.ntmps13
        go_wp2_with (fail)
        refine M.out.mono ?_
        rintro e W1 ⟨bg, bl, pv, kv, rfl, h1, h2⟩
        have c1 := h1.gr.gr.cell' (i := 1) rfl
        have lg := h1.gr.gr.lt
        have D := Lib.hid (gr_call H.out h2)
        clear h1 h2
        go_wp2_with (fail)
        go_ret2
        exact ⟨_, rfl, NatsAt.nil _, D.out⟩
      · have h3 : (m : Int) ≤ f := by omega
        clear hf
        go_enter Try.func13, Try.ntmps13
        go_wp2_with (fail)
        refine M.out.mono ?_
        rintro e W1 ⟨bg, bl, pv, kv, rfl, h1, h2⟩
        have c1 := h1.gr.gr.cell' (i := 1) rfl
        have lg := h1.gr.gr.lt
        have D := Lib.hid (gr_call H.out h2)
        clear h1 h2
        go_wp2_with (fail)
        go_ret2
        exact ⟨_, rfl, NatsAt.nil _, D.out⟩
  · have hE : eReach n l f = (chkG n l).1 := by unfold eReach; rw [if_neg he]
    have hV : vReach n l f = [] := by unfold vReach; rw [hE, if_neg he]
    rw [hV, hE]
    have hmd := made_err n l hl A c _ hA0 he
    obtain ⟨E, hE⟩ : ∃ E, E = (chkG n l).1 := ⟨_, rfl⟩
    obtain ⟨ln, hln⟩ : ∃ ln, ln = l.length := ⟨_, rfl⟩
    rw [← hE] at hmd he ⊢
    rw [← hln] at hmd b0 ⊢
    have H := Lib.hid (And.intro b0 hmd)
    have he' : (E != 0) = true := by simpa using he
    clear b0 hmd hA0 hA hE hln hl he hV
    go_enter Try.func13, Try.ntmps13
    go_wp2_with (fail)
    refine H.out.2.mono ?_
    rintro e W1 ⟨rfl, h1⟩
    have D := Lib.hid (gr_call H.out.1 h1)
    clear h1
    go_wp2_with (fail)
    go_ret2
    exact ⟨_, rfl, NatsAt.nil _, D.out⟩
end Go.Proofs.Ytjgkiiohbceocaa
