/-
  The law's own functions on lists of pairs, and awake, walked; condition: a variable of the library is an int.
-/
import Derived.Test.YtfbkbnojbbpopaaDoorQyRD
import Derived.Test.YtfbkbnojbbpopaaDoorSetEq
namespace Go.Proofs.YtfbkbnojbbpopaaDoor
open Go.RowKit
set_option linter.unusedVariables false
set_option linter.unusedSimpArgs false

set_option maxRecDepth 100000 in
theorem eqPair (p : Pr) (w : World) : (Op.equalIn 10000 44 (.agg #[.string p.n, .string p.v, .bool p.b]) (.agg #[.string p.n, .string p.v, .bool p.b])).run Tryd.prog w = .ok true w := by
  have u3 := Tryd.underlying4
  have a3 := Tryd.isAgg4
  have z3 := Tryd.sizeOf4
  have u4 := Tryd.underlying9
  have a4 := Tryd.isAgg9
  have z4 := Tryd.sizeOf9
  rw [show (10000 : Nat) = 9999 + 1 from rfl, Op.equalIn]
  simp only [Sem.run_bind, run_underlying Tryd.underlying44, Result.andThen_ok]
  go_simp

theorem prAt_one (l : List Pr) : ∀ i j, (prAt l i j).oneCell' = true := by
  intro i j
  unfold prAt
  cases h : l[i]? with
  | none => rfl
  | some p =>
    show (((pairV p)[j]?).getD (.bool false)).oneCell' = true
    match j with
    | 0 => rfl
    | 1 => rfl
    | 2 => rfl
    | j + 3 => rfl

set_option maxRecDepth 100000 in
set_option maxHeartbeats 2000000 in
theorem lsame (l : List Pr) (hl : l.length ≤ 3000000) (A B : Option Addr) (c d : Nat) (w : World) (hA : Cells w A 3 l.length (prAt l)) (hB : Cells w B 3 l.length (prAt l)) :
    Calls Tryd.prog 13 #[.slice A l.length c, .slice B l.length d] w fun e W' => e = .returned (.bool true) ∧ Below w.heap.size w W' := by
  obtain ⟨n, hn⟩ : ∃ n, n = l.length := ⟨_, rfl⟩
  have HA := Lib.hid (And.intro hA (And.intro hB hn))
  rw [← hn] at hl ⊢
  clear hA hB hn
  go_enter Tryd.func13, Tryd.ntmps13
  go_wp2_with (fail)
  go_loopw [5] (fun iv wr => ∃ k : Nat, k ≤ n ∧ iv = .int .i64 (k : Int) ∧ Below w.heap.size w wr) (fun iv _ => n - (intOf iv).toNat)
  case atStart => exact ⟨0, Nat.zero_le _, rfl, Below.refl _ _⟩
  case round =>
    obtain ⟨k, hk, rfl, hbel⟩ := hrel
    by_cases hlt : k < n
    · obtain ⟨p, hp⟩ : ∃ p, l[k]? = some p := ⟨_, List.getElem?_eq_getElem (by rw [← HA.out.2.2]; exact hlt)⟩
      obtain ⟨ab, ao, rfl, hab, c0, c1, c2⟩ := cells_pair (HA.out.1.below hbel) hp
      obtain ⟨bb, bo, rfl, hbb, d0, d1, d2⟩ := cells_pair (HA.out.2.1.below hbel) hp
      have hq := fun W => eqPair p W
      have F := Lib.hid hbel
      clear hbel hp
      obtain ⟨p1, p2, p3⟩ := p
      go_wp2_with (fail)
      go_quiet (fail)
      go_wp2_with (fail)
      go_roundw
      case rel => exact ⟨k + 1, by omega, rfl, below_drewN F.out _⟩
      case measure => simp [intOf]; omega
    · have F := Lib.hid hbel
      clear hbel
      go_wp2_with (fail)
      go_ret
      exact ⟨rfl, F.out⟩

theorem append_more {P : Program} {w : World} {ops : Array Oper} {rest : List Oper} {o : Oper} {a : Act} {Q : Exit → Act → World → Prop} (hgd : Region.wanted o (yielded ops a.tmps) = true) (s x : Operand) (t : TypeId)
    (ho : o.op = .call { callee := .builtin .append, args := #[s, x], argTypes := #[t, t] })
    (base : Nat) (e : TypeId) (i : TypeInfo) (z : Value) (size bytes : Nat) (ht : P.underlying t = some (.slice e)) (hi : P.info? e = some i) (hz : i.zero = some z)
    (hsize : i.size = size) (hby : i.bytes = bytes) (hzs : z.cells.size = size) (hsz : 0 < size)
    (v : Value) (n : Nat) (xs : List Value) (hs : a.eval s = v) (hown : w.ownsRow base e size v n xs)
    (A : Option Addr) (m c : Nat) (f : Nat → Nat → Value) (hx : a.eval x = .slice A m c) (hA : ArgOk A m c) (hc : Cells w A size m f) (h1 : ∀ i j, (f i j).oneCell' = true)
    (h63 : n + m ≤ maxLen) (hbytes : (n + m) * bytes ≤ 140737488355328) (hbase : base ≤ w.heap.size)
    (h : ∀ v' w', w'.ownsRow base e size v' (n + m) (xs ++ flatC f size m) → w.grownBy w' v.ownBlock → wpList P ops Q rest (a.put o.dst v') w') : wpList P ops Q (o :: rest) a w := by
  cases A with
  | none =>
    obtain ⟨rfl, rfl⟩ := hA rfl
    refine wpList_step fun K hK => ?_
    rw [if_pos hgd]
    have hrun := run_append_owned_none (P := P) (w := w) base t o.type e i size ht hi v n xs hown
    have h0 := h v w (by have : flatC f size 0 = [] := by simp [flatC]
                         rw [this, List.append_nil]; exact hown) (only_refl w _)
    unfold Oper.wp
    simp [execOp, ho, resolve, invoke, builtin, hs, hx, hrun, Result.andThen]
    exact hK _ _ h0
  | some ad =>
    refine wpList_step fun K hK => ?_
    rw [if_pos hgd]
    refine wp_append_own w s x t ho base e i z size bytes ht hi hz hsize hby hzs hsz v n xs hs hown ad m c (flatC f size m) hx (flatC_len _ _ _) (fun j u hj => ?_) (fun u hu => ?_) h63 hbytes hbase (fun v' w' h2 h3 _ => hK _ _ (h v' w' h2 h3))
    · have hjl : j < m * size := by
        have := (List.getElem?_eq_some_iff.1 hj).1
        rwa [flatC_len] at this
      rw [flatC_at f size m j hjl] at hj
      have hm0 : 0 < m := Nat.pos_of_ne_zero (fun e => by subst e; simp at hjl)
      obtain ⟨b, off, ea, _, hcl⟩ := hc hm0
      cases ea
      have := hcl (j / size) (j % size) (Nat.div_lt_of_lt_mul (by rw [Nat.mul_comm]; exact hjl)) (Nat.mod_lt _ hsz)
      have ej : off + j / size * size + j % size = off + j := by
        have := Nat.div_add_mod j size
        rw [Nat.mul_comm] at this
        omega
      rw [ej] at this
      rw [Addr.add_lit, this]
      exact hj
    · obtain ⟨t', _, rfl⟩ := List.mem_map.1 hu
      exact h1 _ _

set_option maxRecDepth 100000 in
set_option maxHeartbeats 2000000 in
theorem lown (l : List Pr) (hl : l.length ≤ 1000001) (A : Option Addr) (c : Nat) (w : World) (hA : Cells w A 3 l.length (prAt l)) (hok : ArgOk A l.length c) :
    Calls Tryd.prog 14 #[.slice A l.length c] w fun e W' => ∃ v, e = .returned v ∧ OwnP W' w.heap.size v l ∧ Below w.heap.size w W' := by
  obtain ⟨i1, hi1, hz10, hz11, hz12⟩ := info_parts infoPair
  obtain ⟨n, hn⟩ : ∃ n, n = l.length := ⟨_, rfl⟩
  have HA := Lib.hid (And.intro hA (And.intro hok hn))
  have hA2 := hA.below ((Below.refl w.heap.size w).alloc (Nat.le_refl _) (.cells #[] 44))
  rw [← hn] at hl hA2 hok ⊢
  clear hA hn
  go_enter Tryd.func14, Tryd.ntmps14
  go_wp2_with (at_builtin; refine append_any rfl _ _ 26 rfl w.heap.size 44 i1 _ 3 40 Tryd.underlying26 hi1 hz10 hz11 hz12 rfl (by decide) _ rfl (own_empty w w.heap.size 44 3 (Nat.le_refl _)) A n c (prAt l) rfl hok hA2 (prAt_one l) ?c3 ?c4 ?c5 ?_)
  case c3 => unfold maxLen; omega
  case c4 => omega
  case c5 => simp
  intro v1 W1 hown1 hgrow1
  have b1 : Below w.heap.size w W1 := (gr_alloc (Below.refl w.heap.size w) (.cells #[] 44)).grown hgrow1 (by simp) (by intro k hk; cases hk; exact Nat.le_refl _)
  have ho : OwnP W1 w.heap.size v1 l := by
    unfold OwnP
    rw [flatP_flatC, ← HA.out.2.2]
    exact hown1
  have H := Lib.hid (And.intro ho b1)
  clear ho b1 hown1 hgrow1
  go_wp2_with (fail)
  go_ret
  exact ⟨_, rfl, H.out.1, H.out.2⟩

/-! awake. -/
def awL : List Pr := [⟨⟨#[97]⟩, ⟨#[49]⟩, false⟩, ⟨⟨#[98]⟩, ⟨#[]⟩, true⟩, ⟨⟨#[]⟩, ⟨#[50]⟩, false⟩, ⟨⟨#[99]⟩, ⟨#[100, 61, 101]⟩, false⟩]
theorem aw0 : chkL [97, 61, 49, 38, 38, 98, 38, 61, 50, 38, 99, 61, 100, 61, 101] = 0 ∧ pairsQ [97, 61, 49, 38, 38, 98, 38, 61, 50, 38, 99, 61, 100, 61, 101] = awL := by decide +kernel
theorem aw1 : mkB (encQ [97, 32, 98, 38, 99, 61, 37, 47, 195, 169]) = ⟨#[97, 37, 50, 48, 98, 37, 50, 54, 99, 37, 51, 68, 37, 50, 53, 47, 37, 67, 51, 37, 65, 57]⟩ := by decide +kernel
theorem cells_list {w : World} {g : Nat} {l : List Pr} {cs : Array Value} (h : Blk w g 44 cs) (hc : cs.toList = flatP l) : Cells w (some ⟨g, 0, none⟩) 3 l.length (prAt l) := by
  intro _
  refine ⟨g, 0, rfl, h.lt, fun i j hi hj => ?_⟩
  rw [h.cell, ← Array.getElem?_toList, hc, flatP_at, show (0 + i * 3 + j) / 3 = i by omega, show (0 + i * 3 + j) % 3 = j by omega]
  obtain ⟨p, hp⟩ : ∃ p, l[i]? = some p := ⟨_, List.getElem?_eq_getElem hi⟩
  unfold prAt
  rw [hp]
  show (pairV p)[j]? = some (((pairV p)[j]?).getD (.bool false))
  match j, hj with
  | 0, _ => rfl
  | 1, _ => rfl
  | 2, _ => rfl

set_option maxRecDepth 100000 in
set_option maxHeartbeats 4000000 in
theorem lawake (w : World) (hm : MaxOk w) :
    Calls Tryd.prog 10 #[] w fun e W' => e = .returned (.bool true) ∧ Below w.heap.size w W' := by
  have HM := Lib.hid hm
  clear hm
  go_enter Tryd.func10, Tryd.ntmps10
  go_wp2_with (fail)
  refine (qpairs _ (by decide) _ HM.out).mono ?_
  rintro e W1 ⟨v, rfl, hown, h1⟩
  rw [aw0.1]
  rw [aw0.2] at hown
  obtain ⟨A, c, rfl, hcl, _⟩ := own_cellsP hown
  have B := Lib.hid (And.intro h1 hcl)
  clear hown h1 hcl
  rw [show awL.length = 4 from rfl]
  go_wp2_with (fail)
  refine (qencode _ _ (by decide)).mono ?_
  rintro e W2 ⟨rfl, h2⟩
  rw [aw1]
  have C := Lib.hid (And.intro (gr_call B.out.1 h2) (B.out.2.below h2))
  clear h2 B
  go_wp2_with (fail)
  have hcl2 := C.out.2.below (gr_alloc (Below.refl W2.heap.size W2) (.cells #[.string ⟨#[97]⟩, .string ⟨#[49]⟩, .bool false, .string ⟨#[98]⟩, .string ⟨#[]⟩, .bool true, .string ⟨#[]⟩, .string ⟨#[50]⟩, .bool false, .string ⟨#[99]⟩, .string ⟨#[100, 61, 101]⟩, .bool false] 44))
  have hcl3 := cells_list (l := awL) (Blk.new W2 44 #[.string ⟨#[97]⟩, .string ⟨#[49]⟩, .bool false, .string ⟨#[98]⟩, .string ⟨#[]⟩, .bool true, .string ⟨#[]⟩, .string ⟨#[50]⟩, .bool false, .string ⟨#[99]⟩, .string ⟨#[100, 61, 101]⟩, .bool false]) rfl
  refine (lsame awL (by decide) A _ c 4 _ hcl2 hcl3).mono ?_
  rintro e W3 ⟨rfl, h3⟩
  have D := Lib.hid (gr_call (gr_alloc C.out.1 _) h3)
  clear h3 hcl2 hcl3
  go_wp2_with (fail)
  go_ret
  exact ⟨rfl, D.out⟩
end Go.Proofs.YtfbkbnojbbpopaaDoor
