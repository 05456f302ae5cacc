/-
  The law's reads and awake, walked; condition: the variable ErrSyntax holds an interface value.
-/
import Derived.Test.YtpicenopiigfpaaDoorRwM
namespace Go.Proofs.YtpicenopiigfpaaDoor
open Go.RowKit
set_option linter.unusedVariables false
set_option linter.unusedSimpArgs false

theorem append_more {P : Program} {w : World} {ops : Array Oper} {rest : List Oper} {o : Oper} {a : Act} {Q : Exit → Act → World → Prop} (hgd : Region.wanted o (yielded ops a.tmps) = true) (s x : Operand) (t : TypeId)
    (ho : o.op = .call { callee := .builtin .append, args := #[s, x], argTypes := #[t, t] })
    (base : Nat) (e : TypeId) (i : TypeInfo) (z : Value) (size bytes : Nat) (ht : P.underlying t = some (.slice e)) (hi : P.info? e = some i) (hz : i.zero = some z)
    (hsize : i.size = size) (hby : i.bytes = bytes) (hzs : z.cells.size = size) (hsz : 0 < size)
    (v : Value) (n : Nat) (xs : List Value) (hs : a.eval s = v) (hown : w.ownsRow base e size v n xs)
    (A : Option Addr) (m c : Nat) (f : Nat → Nat → Value) (hx : a.eval x = .slice A m c) (hA : ArgOk A m c) (hc : Cells w A size m f) (h1 : ∀ i j, (f i j).oneCell' = true)
    (h63 : n + m ≤ maxLen) (hbytes : (n + m) * bytes ≤ 140737488355328) (hbase : base ≤ w.heap.size)
    (h : ∀ v' w', w'.ownsRow base e size v' (n + m) (xs ++ flatC f size m) → w.grownBy w' v.ownBlock → wpList P ops Q rest (a.put o.dst v') w') : wpList P ops Q (o :: rest) a w := by
  cases A with
  | none =>
    obtain ⟨rfl, rfl⟩ := hA rfl
    refine wpList_step fun K hK => ?_
    rw [if_pos hgd]
    have hrun := run_append_owned_none (P := P) (w := w) base t o.type e i size ht hi v n xs hown
    have h0 := h v w (by have : flatC f size 0 = [] := by simp [flatC]
                         rw [this, List.append_nil]; exact hown) (only_refl w _)
    unfold Oper.wp
    simp [execOp, ho, resolve, invoke, builtin, hs, hx, hrun, Result.andThen]
    exact hK _ _ h0
  | some ad =>
    refine wpList_step fun K hK => ?_
    rw [if_pos hgd]
    refine wp_append_own w s x t ho base e i z size bytes ht hi hz hsize hby hzs hsz v n xs hs hown ad m c (flatC f size m) hx (flatC_len _ _ _) (fun j u hj => ?_) (fun u hu => ?_) h63 hbytes hbase (fun v' w' h2 h3 _ => hK _ _ (h v' w' h2 h3))
    · have hjl : j < m * size := by
        have := (List.getElem?_eq_some_iff.1 hj).1
        rwa [flatC_len] at this
      rw [flatC_at f size m j hjl] at hj
      have hm0 : 0 < m := Nat.pos_of_ne_zero (fun e => by subst e; simp at hjl)
      obtain ⟨b, off, ea, _, hcl⟩ := hc hm0
      cases ea
      have := hcl (j / size) (j % size) (Nat.div_lt_of_lt_mul (by rw [Nat.mul_comm]; exact hjl)) (Nat.mod_lt _ hsz)
      have ej : off + j / size * size + j % size = off + j := by
        have := Nat.div_add_mod j size
        rw [Nat.mul_comm] at this
        omega
      rw [ej] at this
      rw [Addr.add_lit, this]
      exact hj
    · obtain ⟨t', _, rfl⟩ := List.mem_map.1 hu
      exact h1 _ _


theorem TextsIn.one (ts : List ByteArray) : ∀ i j, (txAt ts i j).oneCell' = true := by
  intro i j
  unfold txAt
  cases ts[i]? <;> rfl
theorem flatC_tx (ts : List ByteArray) : flatC (txAt ts) 1 ts.length = txC ts := by
  symm
  refine eq_flatC (by simp [txC]) ?_
  intro t ht
  have hk : t < ts.length := by omega
  show (ts.map Value.string)[t]? = some (match ts[t / 1]? with | some t => .string t | none => .bool false)
  rw [Nat.div_one, List.getElem?_map, List.getElem?_eq_getElem hk]; rfl
/-- A text whose rows say these texts. -/
theorem lreads (s : ByteArray) (hs : s.size ≤ 1000) (rs : List Rw) (l : List ByteArray) (hl : l.length ≤ 1000) (hr : rowsR s.data.toList = (some rs, 0, 0)) (ht : textsF rs = aRow :: l) (v : Value) (w : World) (hv : TextsIn w v l) (hE : ErrV w 0) :
    Calls Tryd.prog 30 #[.string s, v] w fun e W' => e = .returned (.bool true) ∧ Below w.heap.size w W' := by
  obtain ⟨i0, hi, hz0, hz1, hz2⟩ := info_parts infoStr
  obtain ⟨A, c, rfl, hok, hA⟩ := hv
  obtain ⟨n, hn⟩ : ∃ n, n = l.length := ⟨_, rfl⟩
  have hrw := wrows s (by omega) w hE
  rw [hr] at hrw
  have HA := Lib.hid (And.intro hA (And.intro hn (And.intro ht hok)))
  rw [← hn] at hl ⊢
  clear hA hn ht hr hok
  go_enter Tryd.func30, Tryd.ntmps30
  go_wp2_with (fail)
  refine hrw.mono ?_
  rintro e W1 ⟨u, rfl, hown, hb1⟩
  have hin := hown.in_
  clear hrw hown
  obtain ⟨u1, u2, hue⟩ : ∃ a c, u = .slice a rs.length c := by
    obtain ⟨A, c, _, h, _⟩ := hin
    exact ⟨A, c, h⟩
  subst hue
  have K := Lib.hid (And.intro hin hb1)
  clear hin hb1
  go_wp2_with (fail)
  have htx := fun W (h : Below W1.heap.size W1 W) => ltexts rs 1001 (by decide) (by rw [HA.out.2.2.1, List.length_cons, ← HA.out.2.1]; omega) _ W (K.out.1.below h)
  refine (htx _ (gr_alloc (Below.refl _ _) _)).mono ?_
  rintro e W2 ⟨x, rfl, hown2, hb2⟩
  clear htx
  have hin2 := own_texts hown2
  have hB2 : Below w.heap.size w W2 := gr_call (gr_alloc K.out.2 _) hb2
  have hz2' : W2.heap.size ≤ W2.heap.size := Nat.le_refl _
  have hlit := World.ownsRow_lit (base := W2.heap.size) (size := 1) (e := 9) W2 #[.string aRow] 1 (Nat.le_refl _) (by unfold maxLen; omega) rfl
  have hA3 : Cells (W2.alloc (.cells #[.string aRow] 9)) A 1 n (txAt l) := by
    have := (HA.out.1.below hB2).below (gr_alloc (Below.refl _ _) (.cells #[.string aRow] 9))
    rw [← HA.out.2.1] at this
    exact this
  have hok3 : ArgOk A n c := by rw [HA.out.2.1]; exact HA.out.2.2.2
  have H2 := Lib.hid (And.intro hin2 hB2)
  clear hown2 hb2 hin2 hB2
  go_wp2_with (at_builtin; go_loud (refine append_more (by first | rfl | simp [Region.wanted, yielded]) _ _ 31 rfl W2.heap.size 9 i0 (.string ⟨#[]⟩) 1 16 Tryd.underlying31 hi hz0 hz1 hz2 rfl (by decide) _ 1 _ rfl hlit A n c (txAt l) rfl hok3 hA3 (TextsIn.one _) ?c3 ?c4 ?c5 ?_))
  case c3 => unfold maxLen; omega
  case c4 => omega
  case c5 => simp
  intro v6 W6 hown6 hgrow6
  have hb6 : Below W2.heap.size W2 W6 := (gr_alloc (Below.refl _ _) (.cells #[.string aRow] 9)).grown hgrow6 (by simp) (fun k hk => (hlit.lt k hk).1)
  have hl6 : (1 + n) = (aRow :: l).length := by rw [List.length_cons, HA.out.2.1]; omega
  have ho6 : W6.ownsRow W2.heap.size 9 1 v6 (aRow :: l).length (txC (aRow :: l)) := by
    rw [← hl6]
    have e : txC (aRow :: l) = #[Value.string aRow].toList ++ flatC (txAt l) 1 n := by
      rw [HA.out.2.1, flatC_tx]; rfl
    rw [e]
    exact hown6
  have h6 := own_texts ho6
  have h2 := H2.out.1.below hb6
  rw [HA.out.2.2.1] at h2
  have hst := lsameTexts (aRow :: l) (by rw [List.length_cons, ← HA.out.2.1]; omega) _ _ W6 h2 h6
  have hB6 := gr_call H2.out.2 hb6
  clear hown6 hgrow6 hb6 hl6 ho6 h6 h2 hlit hA3 hok3
  go_wp2_with (fail)
  refine hst.mono ?_
  rintro e W7 ⟨rfl, hb7⟩
  have H7 := Lib.hid (gr_call hB6 hb7)
  clear hb7 hB6 hst
  go_wp2_with (fail)
  go_ret
  exact ⟨rfl, H7.out⟩

/-! The chapter's examples that every law asks. -/
def ex1 : ByteArray := ⟨#[100, 105, 114, 32, 47, 97, 32, 32, 35, 32, 97, 108, 108, 10]⟩
def ex2 : ByteArray := ⟨#[34, 97, 92, 34, 98, 92, 92, 92, 120, 52, 49, 34]⟩
theorem ex1_rows : rowsR ex1.data.toList = (some [⟨0, [⟨0, ⟨#[100, 105, 114]⟩, false⟩, ⟨4, ⟨#[47, 97]⟩, false⟩]⟩], 0, 0) := by decide +kernel
theorem ex2_rows : rowsR ex2.data.toList = (some [⟨0, [⟨0, ⟨#[97, 34, 98, 92, 65]⟩, true⟩]⟩], 0, 0) := by decide +kernel
theorem ex3_write : wrW [97, 32, 98] = [34, 97, 32, 98, 34] := by decide +kernel
theorem txAt_two {W : World} (a b : ByteArray) {g : Nat} (h : Blk W g 9 #[.string a, .string b]) (c : Nat) : TextsIn W (.slice (some ⟨g, 0, none⟩) 2 c) [a, b] :=
  ⟨_, _, rfl, fun h => (by cases h), fun _ => ⟨g, 0, rfl, h.lt, fun i j hi hj => by
    have : j = 0 := by omega
    subst this
    match i, hi with
    | 0, _ => exact h.cell' rfl
    | 1, _ => exact h.cell' rfl⟩⟩
theorem txAt_one {W : World} (a : ByteArray) {g : Nat} (h : Blk W g 9 #[.string a]) (c : Nat) : TextsIn W (.slice (some ⟨g, 0, none⟩) 1 c) [a] :=
  ⟨_, _, rfl, fun h => (by cases h), fun _ => ⟨g, 0, rfl, h.lt, fun i j hi hj => by
    have : j = 0 := by omega
    subst this
    match i, hi with
    | 0, _ => exact h.cell' rfl⟩⟩

set_option maxRecDepth 100000 in
set_option maxHeartbeats 4000000 in
theorem lawake (w : World) (hE : ErrV w 0) :
    Calls Tryd.prog 10 #[] w fun e W' => e = .returned (.bool true) ∧ Below w.heap.size w W' := by
  have hw := wWrite ⟨#[97, 32, 98]⟩ w (by decide)
  rw [show ((⟨#[97, 32, 98]⟩ : ByteArray).data.toList) = [97, 32, 98] from rfl, ex3_write] at hw
  have hr1 := fun W v hv hE => lreads ex1 (by decide) _ [⟨#[100, 105, 114]⟩, ⟨#[47, 97]⟩] (by decide) ex1_rows rfl v W hv hE
  have hr2 := fun W v hv hE => lreads ex2 (by decide) _ [⟨#[97, 34, 98, 92, 65]⟩] (by decide) ex2_rows rfl v W hv hE
  unfold ex1 at hr1
  unfold ex2 at hr2
  have HH := Lib.hid (And.intro hr1 (And.intro hr2 hE))
  clear hr1 hr2 hE
  go_enter Tryd.func10, Tryd.ntmps10
  go_wp2_with (fail)
  refine hw.mono ?_
  rintro e W1 ⟨rfl, h1⟩
  unfold mkB
  have H1 := Lib.hid (And.intro h1 (HH.out.2.2.below h1 HH.out.2.2.lt))
  clear h1 hw
  go_wp2_with (fail)
  refine (HH.out.1 _ _ (txAt_two _ _ (Blk.new _ _ _) _) (H1.out.2.below (gr_alloc (Below.refl _ _) _) H1.out.2.lt)).mono ?_
  rintro e W2 ⟨rfl, h2⟩
  have hB2 := gr_call (gr_alloc H1.out.1 _) h2
  have H2 := Lib.hid (And.intro hB2 (HH.out.2.2.below hB2 HH.out.2.2.lt))
  clear h2 hB2
  go_wp2_with (fail)
  refine (HH.out.2.1 _ _ (txAt_one _ (Blk.new _ _ _) _) (H2.out.2.below (gr_alloc (Below.refl _ _) _) H2.out.2.lt)).mono ?_
  rintro e W3 ⟨rfl, h3⟩
  have H3 := Lib.hid (gr_call (gr_alloc H2.out.1 _) h3)
  clear h3
  go_wp2_with (fail)
  go_ret
  exact ⟨rfl, H3.out⟩
end Go.Proofs.YtpicenopiigfpaaDoor
