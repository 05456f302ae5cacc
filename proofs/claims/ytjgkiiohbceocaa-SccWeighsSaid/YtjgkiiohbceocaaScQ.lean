/-
  (*graph).edge, slices.Concat, scc.Parts and scc.Loops, walked; conditions: at most 1000000 edges.
  scc.Parts, scc.Loops and scc.Reach, walked; conditions: at most 1000000 edges.
-/
import Derived.Test.YtjgkiiohbceocaaScO
namespace Go.Proofs.Ytjgkiiohbceocaa
open Go.RowKit
set_option linter.unusedVariables false
set_option linter.unusedSimpArgs false

/-- A list of nodes that lies there. -/
structure NatsAt (W : World) (v : Value) (l : List Nat) : Prop where
  ex : ∃ A c, v = .slice A l.length c ∧ (l ≠ [] → ∃ g o, A = some ⟨g, o, none⟩ ∧ g < W.heap.size ∧ ∀ (j x : Nat), l[j]? = some x → W.cell? ⟨g, o + j, none⟩ = some (.int .i64 (x : Int)))
theorem NatsAt.below {W W' : World} {v : Value} {l : List Nat} (h : NatsAt W v l) (hb : Below W.heap.size W W') : NatsAt W' v l := by
  obtain ⟨A, c, h1, h2⟩ := h.ex
  refine ⟨A, c, h1, fun hn => ?_⟩
  obtain ⟨g, o, h3, h4, h5⟩ := h2 hn
  exact ⟨g, o, h3, Nat.lt_of_lt_of_le h4 hb.size, fun j x hj => by rw [hb.cell (p := ⟨g, o + j, none⟩) h4]; exact h5 j x hj⟩
theorem OwnN.at_ {W : World} {B : Nat} {v : Value} {l : List Nat} (h : OwnN W B v l) : NatsAt W v l := by
  rcases h.2 with ⟨h1, h0⟩ | ⟨g, cap, cur, h1, h2, h3, _, _, _, h7⟩
  · exact ⟨none, 0, by rw [h1, h0], fun hn => absurd (List.length_eq_zero_iff.1 h0) hn⟩
  · refine ⟨some ⟨g, 0, none⟩, cap, h1, fun _ => ⟨g, 0, rfl, (Array.getElem?_eq_some_iff.1 h3).1, fun j x hj => ?_⟩⟩
    rw [Nat.zero_add, cell_of_row W g j cur _ _ h3]
    have hu : (natC l)[j]? = some (.int .i64 (x : Int)) := by unfold natC; rw [List.getElem?_map, hj]; rfl
    have hk := (List.getElem?_eq_some_iff.1 hj).1
    rw [← h7, List.getElem?_take, if_pos (by omega)] at hu
    simpa using hu
/-- A list of lists that lies there. -/
structure LLAt (W : World) (v : Value) (ls : List (List Nat)) : Prop where
  ex : ∃ A c, v = .slice A ls.length c ∧ (ls ≠ [] → ∃ g, A = some ⟨g, 0, none⟩ ∧ g < W.heap.size ∧ ∀ (j : Nat) (l : List Nat), ls[j]? = some l → ∃ u, W.cell? ⟨g, j, none⟩ = some u ∧ NatsAt W u l)
theorem LLAt.below {W W' : World} {v : Value} {ls : List (List Nat)} (h : LLAt W v ls) (hb : Below W.heap.size W W') : LLAt W' v ls := by
  obtain ⟨A, c, h1, h2⟩ := h.ex
  refine ⟨A, c, h1, fun hn => ?_⟩
  obtain ⟨g, h3, h4, h5⟩ := h2 hn
  refine ⟨g, h3, Nat.lt_of_lt_of_le h4 hb.size, fun j l hj => ?_⟩
  obtain ⟨u, h6, h7⟩ := h5 j l hj
  exact ⟨u, by rw [hb.cell (p := ⟨g, j, none⟩) h4]; exact h6, h7.below hb⟩
theorem OwnLL.at_ {W : World} {B : Nat} {v : Value} {ls : List (List Nat)} (h : OwnLL W B v ls) : LLAt W v ls := by
  obtain ⟨vs, h1, h2⟩ := h
  have hl := h2.len
  rcases h1.2 with ⟨h3, h0⟩ | ⟨g, cap, cur, h3, h4, h5, _, _, _, h7⟩
  · exact ⟨none, 0, by rw [h3, h0], fun hn => absurd (List.length_eq_zero_iff.1 h0) hn⟩
  · refine ⟨some ⟨g, 0, none⟩, cap, h3, fun _ => ⟨g, rfl, (Array.getElem?_eq_some_iff.1 h5).1, fun j l hj => ?_⟩⟩
    have hk := (List.getElem?_eq_some_iff.1 hj).1
    obtain ⟨u, hu⟩ : ∃ u, vs[j]? = some u := ⟨_, List.getElem?_eq_getElem (by omega)⟩
    refine ⟨u, ?_, (h2.at_ j l u hj hu).at_⟩
    rw [cell_of_row W g j cur _ _ h5, ← hu, ← h7, List.getElem?_take, if_pos (by omega)]
    simp
/-- A graph that was made, for those that read it. -/
structure GrAt (W : World) (bg bl n : Nat) (E : Nat → Nat → Bool) (ls : List (List Nat)) (pv kv : Value) : Prop where
  gr : GrOk W bg bl n E pv kv
  ll : LLAt W pv ls
theorem GrAt.below {W W' : World} {bg bl n : Nat} {E : Nat → Nat → Bool} {ls : List (List Nat)} {pv kv : Value} (h : GrAt W bg bl n E ls pv kv) (hb : Below W.heap.size W W') : GrAt W' bg bl n E ls pv kv :=
  ⟨h.gr.below hb h.gr.gr.lt h.gr.ln.lt, h.ll.below hb⟩

/-! Whether there is an edge, step by step. -/
def edgTo (E : Nat → Nat → Bool) (b : List Nat) (a : List Nat) (i : Nat) : Bool := (a.take i).any fun x => b.any fun y => E x y
theorem edgTo_zero (E : Nat → Nat → Bool) (b a : List Nat) : edgTo E b a 0 = false := by simp [edgTo]
theorem edgTo_all (E : Nat → Nat → Bool) (b a : List Nat) : edgTo E b a a.length = edgL E a b := by unfold edgTo edgL; rw [List.take_length]
theorem edgTo_step {E : Nat → Nat → Bool} {b a : List Nat} {i x : Nat} (hx : a[i]? = some x) (h0 : edgTo E b a i = false) : edgTo E b a (i + 1) = b.any fun y => E x y := by
  unfold edgTo at h0 ⊢
  rw [List.take_add_one, hx, List.any_append, h0, Bool.false_or]
  simp
theorem any_step {E : Nat → Nat → Bool} {b : List Nat} {x j y : Nat} (hy : b[j]? = some y) (h0 : ((b.take j).any fun y => E x y) = false) : ((b.take (j + 1)).any fun y => E x y) = E x y := by
  rw [List.take_add_one, hy, List.any_append, h0, Bool.false_or]
  simp
theorem any_found {E : Nat → Nat → Bool} {b : List Nat} {x j y : Nat} (hy : b[j]? = some y) (h : E x y = true) : (b.any fun y => E x y) = true :=
  List.any_eq_true.2 ⟨y, List.mem_of_getElem? hy, h⟩
theorem edg_found {E : Nat → Nat → Bool} {a b : List Nat} {x i : Nat} (hx : a[i]? = some x) (h : (b.any fun y => E x y) = true) : edgL E a b = true :=
  List.any_eq_true.2 ⟨x, List.mem_of_getElem? hx, h⟩

set_option maxRecDepth 100000 in
set_option maxHeartbeats 4000000 in
theorem edge_code (n : Nat) (hn : n ≤ 64) (E : Nat → Nat → Bool) (ls : List (List Nat)) (hls : ls.length ≤ 64) (hlt : ∀ l ∈ ls, l ≠ [] ∧ l.length ≤ 64 ∧ ∀ x ∈ l, x < 64) (bg bl i k : Nat) (hi : i < ls.length) (hk : k < ls.length) (pv kv : Value) (w : World) (hg : GrAt w bg bl n E ls pv kv) :
    Calls Try.prog 49 #[.pointer (some ⟨bg, 0, none⟩), .int .i64 (i : Int), .int .i64 (k : Int)] w fun e w' => e = .returned (.bool (edgP E ls i k)) ∧ w = w' := by
  obtain ⟨A, c, rfl, hA⟩ := hg.ll.ex
  obtain ⟨g, rfl, hgl, hc⟩ := hA (fun e => by subst e; simp at hi)
  obtain ⟨la, hla⟩ : ∃ l, ls[i]? = some l := ⟨_, List.getElem?_eq_getElem hi⟩
  obtain ⟨lb, hlb⟩ : ∃ l, ls[k]? = some l := ⟨_, List.getElem?_eq_getElem hk⟩
  obtain ⟨ua, ca, ⟨Aa, c1, hua, ha⟩⟩ := hc i la hla
  obtain ⟨ub, cb, ⟨Ab, c2, hub, hb⟩⟩ := hc k lb hlb
  obtain ⟨hna, hla64, hxa⟩ := hlt la (List.mem_of_getElem? hla)
  obtain ⟨hnb, hlb64, hxb⟩ := hlt lb (List.mem_of_getElem? hlb)
  obtain ⟨ga, oa, rfl, gal, hca⟩ := ha hna
  obtain ⟨gb, ob, rfl, gbl, hcb⟩ := hb hnb
  subst hua hub
  have hres : edgP E ls i k = edgL E la lb := by unfold edgP; rw [hla, hlb]; rfl
  rw [hres]
  have g2 := hg.gr.gr.cell' (i := 2) rfl
  have g0 := hg.gr.gr.cell' (i := 0) rfl
  have gll := hg.gr.gr.lt
  have lln := hg.gr.ln.lt
  have hi' : (i : Int) < (ls.length : Int) := by omega
  have hk' : (k : Int) < (ls.length : Int) := by omega
  obtain ⟨na, hna'⟩ : ∃ m, m = la.length := ⟨_, rfl⟩
  obtain ⟨nb, hnb'⟩ : ∃ m, m = lb.length := ⟨_, rfl⟩
  rw [← hna'] at ca hla64
  rw [← hnb'] at cb hlb64
  have H := Lib.hid (And.intro hg.gr.ln (And.intro hca (And.intro hcb (And.intro hna' (And.intro hnb' (And.intro hxa hxb))))))
  clear hg hc hca hcb hxa hxb hna hnb hres hna' hnb' hla hlb hlt ha hb hA
  go_enter Try.func49, Try.ntmps49
  go_wp2_with (fail)
  go_loopw [19] (fun iv wr => ∃ p : Nat, p ≤ na ∧ iv = .int .i64 (p : Int) ∧ edgTo E lb la p = false ∧ w = wr) (fun iv _ => na - (intOf iv).toNat)
  case atStart => exact ⟨0, Nat.zero_le _, rfl, edgTo_zero _ _ _, rfl⟩
  case round =>
    obtain ⟨p, hp, rfl, he, rfl⟩ := hrel
    by_cases hpn : p < na
    · obtain ⟨x, hx⟩ : ∃ x, la[p]? = some x := ⟨_, List.getElem?_eq_getElem (by rw [← H.out.2.2.2.1]; exact hpn)⟩
      have cx := H.out.2.1 p x hx
      have hx64 : x < 64 := H.out.2.2.2.2.2.1 x (List.mem_of_getElem? hx)
      have hp' : (p : Int) < (na : Int) := by omega
      have B := Lib.hid (And.intro he hx)
      clear he hx
      go_wp2_with (fail)
      go_loopw [31] (fun jv wr => ∃ q : Nat, q ≤ nb ∧ jv = .int .i64 (q : Int) ∧ ((lb.take q).any fun y => E x y) = false ∧ w = wr) (fun jv _ => nb - (intOf jv).toNat)
      case atStart => exact ⟨0, Nat.zero_le _, rfl, by simp, rfl⟩
      case round =>
        obtain ⟨q, hq, rfl, hf, rfl⟩ := hrel
        by_cases hqn : q < nb
        · obtain ⟨y, hy⟩ : ∃ y, lb[q]? = some y := ⟨_, List.getElem?_eq_getElem (by rw [← H.out.2.2.2.2.1]; exact hqn)⟩
          have cy := H.out.2.2.1 q y hy
          have hy64 : y < 64 := H.out.2.2.2.2.2.2 y (List.mem_of_getElem? hy)
          have hq' : (q : Int) < (nb : Int) := by omega
          have hx7 : (x : Int) < 64 := by omega
          have hy7 : (y : Int) < 64 := by omega
          have wy : IntKind.u64.wrap (y : Int) = (y : Int) := IntWalk.u64_in _ (by omega)
          obtain ⟨X, hX⟩ : ∃ X, X = rowW E x := ⟨_, rfl⟩
          have hXl : X < 18446744073709551616 := by rw [hX]; exact rowW_lt _ _
          have hX0 : 0 ≤ (X : Int) := by omega
          have hX1 : (X : Int) < 18446744073709551616 := by omega
          have cw := H.out.1.cell' (lnkC_next E (rea n E) hx64)
          rw [← hX] at cw
          have hbt : (bits .and .u64 ((X : Int) / 2 ^ y) 1 == 1) = E x y := by rw [bit_test _ _ hXl, hX, rowW_bit _ _ _ hy64]
          have D := Lib.hid (And.intro hf hy)
          clear hf hy hX hXl
          cases hE : E x y with
          | true =>
            rw [hE] at hbt
            have hbt' : bits .and .u64 ((X : Int) / 2 ^ y) 1 = 1 := by simpa using hbt
            have F := Lib.hid hE
            clear hE hbt
            go_wp2_with (fail)
            go_ret
            exact ⟨ret_bool (edg_found B.out.2 (any_found D.out.2 F.out)).symm, rfl⟩
          | false =>
            rw [hE] at hbt
            have F := Lib.hid hE
            clear hE
            go_wp2_with (fail)
            go_roundw
            case rel => exact ⟨q + 1, hqn, rfl, by rw [any_step D.out.2 D.out.1]; exact F.out, by first | rfl | trivial⟩
            case measure => simp [intOf]; omega
        · have eq : q = nb := by omega
          subst q
          have D := Lib.hid hf
          clear hf hqn
          go_wp2_with (fail)
          go_roundw
          case rel =>
            refine ⟨p + 1, hpn, rfl, ?_, by first | rfl | trivial⟩
            rw [edgTo_step B.out.2 B.out.1]
            have := D.out
            rwa [H.out.2.2.2.2.1, List.take_length] at this
          case measure => simp [intOf]; omega
    · have ep : p = na := by omega
      subst p
      have B := Lib.hid he
      clear he hpn
      go_wp2_with (fail)
      go_ret
      refine ⟨ret_bool ?_, rfl⟩
      have := B.out
      rw [H.out.2.2.2.1, edgTo_all] at this
      exact this.symm
end Go.Proofs.Ytjgkiiohbceocaa
namespace Go.Proofs.Ytjgkiiohbceocaa
open Go.RowKit
set_option linter.unusedVariables false
set_option linter.unusedSimpArgs false

/-! What the functions compute. -/
def rR (n : Int) (l : List Edg) : Nat → Nat → Bool := rea n.toNat (relE l)
def pV (n : Int) (l : List Edg) : List (List Nat) := partsV n.toNat (rR n l)
def vParts (n : Int) (l : List Edg) : List (List Nat) := if (chkG n l).1 = 0 then pV n l else []
def loopsV (n : Int) (l : List Edg) : List Bool := (pV n l).map fun c => rR n l (c.headD 0) (c.headD 0)
def vLoops (n : Int) (l : List Edg) : List Bool := if (chkG n l).1 = 0 then loopsV n l else []
def eReach (n : Int) (l : List Edg) (f : Int) : Int := if (chkG n l).1 = 0 then (if 0 ≤ f ∧ f < n then 0 else 2) else (chkG n l).1
def reachV (n : Int) (l : List Edg) (f : Nat) : List Nat := (List.range n.toNat).filter fun i => rR n l f i
def vReach (n : Int) (l : List Edg) (f : Int) : List Nat := if eReach n l f = 0 then reachV n l f.toNat else []

theorem parts_what {n : Nat} {T : Nat → Nat → Bool} (ht : Trans' T) (hn : n ≤ 64) : (partsV n T).length ≤ 64 ∧ ∀ l ∈ partsV n T, l ≠ [] ∧ l.length ≤ 64 ∧ ∀ x ∈ l, x < 64 := by
  constructor
  · unfold partsV
    rw [List.length_map]
    exact Nat.le_trans (partsR_len ht) hn
  · intro l hl
    obtain ⟨i, hi⟩ := List.mem_iff_getElem?.1 hl
    obtain ⟨r, t, e, _⟩ := partsV_ne ht hi
    obtain ⟨r', h1, h2⟩ := partsV_at hi
    refine ⟨by rw [e]; simp, by rw [h2]; exact Nat.le_trans (mem_len _ _ _) hn, fun x hx => ?_⟩
    rw [h2] at hx
    have := (mem_mem.1 hx).1
    omega
theorem MadeOk.at_ {W : World} {B bg bl n : Nat} {l : List Edg} {pv kv : Value} (h : MadeOk W B bg bl n l pv kv) : GrAt W bg bl n (relE l) (partsV n (rea n (relE l))) pv kv := ⟨h.gr, h.parts.at_⟩
/-- A valid graph's number of nodes. -/
theorem ok_nat {n : Int} {l : List Edg} (h : (chkG n l).1 = 0) : ∃ m : Nat, n = (m : Int) ∧ m ≤ 64 ∧ (∀ e ∈ l, okEd m e) ∧ Within m (relE l) ∧ Trans' (rea m (relE l)) := by
  obtain ⟨h1, h2, h3⟩ := chkG_ok h
  obtain ⟨m, rfl⟩ : ∃ m : Nat, n = (m : Int) := ⟨n.toNat, by omega⟩
  exact ⟨m, rfl, by omega, h3, relE_within h3, fun i j k a b => rea_trans (relE_within h3) a b⟩

set_option maxRecDepth 100000 in
set_option maxHeartbeats 2000000 in
theorem parts_code (n : Int) (l : List Edg) (hl : l.length ≤ 1000000) (A : Option Addr) (c : Nat) (w : World) (hA : Cells w A 2 l.length (edAt l)) :
    Calls Try.prog 23 #[.agg #[.int .i64 n, .slice A l.length c]] w fun e w' => ∃ v, e = .returned (.tuple #[v, .int .i64 (chkG n l).1]) ∧ LLAt w' v (vParts n l) ∧ Below w.heap.size w w' := by
  have b0 := gr_alloc (Below.refl w.heap.size w) (.cells #[.int .i64 n, .slice A l.length c] 24)
  have hA0 := hA.below b0
  by_cases he : (chkG n l).1 = 0
  · unfold vParts pV rR
    rw [if_pos he]
    have he' := he
    obtain ⟨m, rfl, hm, hv, hw, ht⟩ := ok_nat he
    have hmd := made_code m hm l hl hv he A c _ hA0
    rw [he]
    have H := Lib.hid b0
    clear b0 hA0 hA
    obtain ⟨ln, hln⟩ : ∃ ln, ln = l.length := ⟨_, rfl⟩
    rw [← hln] at hmd H ⊢
    have M := Lib.hid hmd
    clear hmd he he' hln hl hv
    go_enter Try.func23, Try.ntmps23
    go_wp2_with (fail)
    refine M.out.mono ?_
    rintro e W1 ⟨bg, bl, pv, kv, rfl, h1, h2⟩
    have c2 := h1.gr.gr.cell' (i := 2) rfl
    have lg := h1.gr.gr.lt
    have D := Lib.hid (And.intro h1 (gr_call H.out h2))
    clear h1 h2
    go_wp2_with (fail)
    go_ret2
    exact ⟨_, rfl, by rw [Int.toNat_natCast]; exact D.out.1.at_.ll, D.out.2⟩
  · unfold vParts
    rw [if_neg he]
    have hmd := made_err n l hl A c _ hA0 he
    obtain ⟨E, hE⟩ : ∃ E, E = (chkG n l).1 := ⟨_, rfl⟩
    obtain ⟨ln, hln⟩ : ∃ ln, ln = l.length := ⟨_, rfl⟩
    rw [← hE] at hmd he ⊢
    rw [← hln] at hmd b0 ⊢
    have H := Lib.hid (And.intro b0 hmd)
    have he' : (E != 0) = true := by simpa using he
    clear b0 hmd hA0 hA hE hln hl he
    go_enter Try.func23, Try.ntmps23
    go_wp2_with (fail)
    refine H.out.2.mono ?_
    rintro e W1 ⟨rfl, h1⟩
    have D := Lib.hid (gr_call H.out.1 h1)
    clear h1
    go_wp2_with (fail)
    go_ret2
    exact ⟨_, rfl, ⟨none, 0, rfl, fun h => absurd rfl h⟩, D.out⟩

/-! Lists of values of one cell. -/
structure CellsAt (W : World) (v : Value) (xs : List Value) : Prop where
  ex : ∃ A c, v = .slice A xs.length c ∧ (xs ≠ [] → ∃ g o, A = some ⟨g, o, none⟩ ∧ g < W.heap.size ∧ ∀ (j : Nat) (u : Value), xs[j]? = some u → W.cell? ⟨g, o + j, none⟩ = some u)
theorem CellsAt.below {W W' : World} {v : Value} {xs : List Value} (h : CellsAt W v xs) (hb : Below W.heap.size W W') : CellsAt W' v xs := by
  obtain ⟨A, c, h1, h2⟩ := h.ex
  refine ⟨A, c, h1, fun hn => ?_⟩
  obtain ⟨g, o, h3, h4, h5⟩ := h2 hn
  exact ⟨g, o, h3, Nat.lt_of_lt_of_le h4 hb.size, fun j x hj => by rw [hb.cell (p := ⟨g, o + j, none⟩) h4]; exact h5 j x hj⟩
theorem own_cells {W : World} {B n : Nat} {e : TypeId} {v : Value} {xs : List Value} (h : W.ownsRow B e 1 v n xs) : CellsAt W v xs := by
  have hl : xs.length = n := by rw [h.1, Nat.mul_one]
  rcases h.2 with ⟨h1, h0⟩ | ⟨g, cap, cur, h1, h2, h3, _, _, _, h7⟩
  · exact ⟨none, 0, by rw [h1, hl, h0], fun hn => absurd (List.length_eq_zero_iff.1 (by omega)) hn⟩
  · refine ⟨some ⟨g, 0, none⟩, cap, by rw [hl]; exact h1, fun _ => ⟨g, 0, rfl, (Array.getElem?_eq_some_iff.1 h3).1, fun j x hj => ?_⟩⟩
    rw [Nat.zero_add, cell_of_row W g j cur _ _ h3]
    have hk := (List.getElem?_eq_some_iff.1 hj).1
    rw [← h7, List.getElem?_take, if_pos (by omega)] at hj
    simpa using hj
theorem CellsAt.nil (W : World) : CellsAt W (.slice none 0 0) [] := ⟨none, 0, rfl, fun h => absurd rfl h⟩
theorem NatsAt.nil (W : World) : NatsAt W (.slice none 0 0) [] := ⟨none, 0, rfl, fun h => absurd rfl h⟩
def boolL (l : List Bool) : List Value := l.map .bool
theorem loopsV_at {n : Int} {l : List Edg} {i : Nat} {cc : List Nat} (h : (pV n l)[i]? = some cc) : (loopsV n l)[i]? = some (rR n l (cc.headD 0) (cc.headD 0)) := by
  unfold loopsV
  rw [List.getElem?_map, h]; rfl
theorem loopsV_len (n : Int) (l : List Edg) : (loopsV n l).length = (pV n l).length := by unfold loopsV; rw [List.length_map]

set_option maxRecDepth 100000 in
set_option maxHeartbeats 4000000 in
theorem loops_code (n : Int) (l : List Edg) (hl : l.length ≤ 1000000) (A : Option Addr) (c : Nat) (w : World) (hA : Cells w A 2 l.length (edAt l)) :
    Calls Try.prog 25 #[.agg #[.int .i64 n, .slice A l.length c]] w fun e w' => ∃ v, e = .returned (.tuple #[v, .int .i64 (chkG n l).1]) ∧ CellsAt w' v (boolL (vLoops n l)) ∧ Below w.heap.size w w' := by
  have b0 := gr_alloc (Below.refl w.heap.size w) (.cells #[.int .i64 n, .slice A l.length c] 24)
  have hA0 := hA.below b0
  by_cases he : (chkG n l).1 = 0
  · unfold vLoops
    rw [if_pos he]
    have he' := he
    obtain ⟨m, rfl, hm, hv, hw, ht⟩ := ok_nat he
    have hmd := made_code m hm l hl hv he A c _ hA0
    rw [he]
    have H := Lib.hid b0
    clear b0 hA0 hA
    obtain ⟨ln, hln⟩ : ∃ ln, ln = l.length := ⟨_, rfl⟩
    rw [← hln] at hmd H ⊢
    have hpw := parts_what ht hm
    have hR : rR (m : Int) l = rea m (relE l) := by unfold rR; rw [Int.toNat_natCast]
    have hP : pV (m : Int) l = partsV m (rea m (relE l)) := by unfold pV; rw [hR, Int.toNat_natCast]
    obtain ⟨np, hnp⟩ : ∃ np, np = (partsV m (rea m (relE l))).length := ⟨_, rfl⟩
    have hnp64 : np ≤ 64 := by rw [hnp]; exact hpw.1
    have M := Lib.hid (And.intro hmd (And.intro hpw (And.intro hR (And.intro hP (And.intro hnp ht)))))
    obtain ⟨i0, hi0, hz0, hz1, hz2⟩ := info_parts infoBool
    clear hmd he he' hln hl hv hpw hR hP hw ht
    go_enter Try.func25, Try.ntmps25
    go_wp2_with (fail)
    refine M.out.1.mono ?_
    rintro e W1 ⟨bg, bl, pv, kv, rfl, h1, h2⟩
    have hga := h1.at_
    obtain ⟨pA, pc, rfl, _⟩ := hga.ll.ex
    have c2 := h1.gr.gr.cell' (i := 2) rfl
    have lg := h1.gr.gr.lt
    have D := Lib.hid (And.intro hga (gr_call H.out h2))
    clear h1 h2 hga
    rw [← hnp] at c2
    rw [← hnp] at D
    clear hnp
    go_wp2_with (fail)
    go_loopg [22, 6] np (fun q iv ov wr => ∃ i : Nat, q = np - i ∧ i ≤ np ∧ iv = .int .i64 (i : Int) ∧ Below W1.heap.size W1 wr ∧ wr.ownsRow W1.heap.size 4 1 ov i (boolL ((loopsV (m : Int) l).take i)))
    case atStart => exact ⟨0, rfl, Nat.zero_le _, rfl, Below.refl _ _, World.ownsRow_nil _ _ _ _⟩
    case round =>
      obtain ⟨i, hq, hi, rfl, hbel, hown⟩ := hrel
      by_cases hin : i < np
      · obtain ⟨cc, hcc⟩ : ∃ cc, (partsV m (rea m (relE l)))[i]? = some cc := ⟨_, List.getElem?_eq_getElem (by rw [← M.out.2.2.2.2.1]; exact hin)⟩
        obtain ⟨A', c', hsl, hex⟩ := D.out.1.ll.ex
        obtain ⟨g, hA', hgl, hcells⟩ := hex (fun e => by rw [e] at hcc; simp at hcc)
        have hA2 : pA = some ⟨g, 0, none⟩ := by injection hsl with h1; rw [h1, hA']
        subst hA2
        obtain ⟨u, cu, ⟨Au, uc, rfl, hue⟩⟩ := hcells i cc hcc
        obtain ⟨hne, hcl, hlt⟩ := M.out.2.1.2 cc (List.mem_of_getElem? hcc)
        obtain ⟨gu, ou, rfl, gul, huc⟩ := hue hne
        obtain ⟨a, tl, rfl⟩ : ∃ a tl, cc = a :: tl := ⟨cc.head hne, cc.tail, (List.cons_head_tail hne).symm⟩
        have cx := (hbel.cell (p := ⟨gu, ou + 0, none⟩) gul).trans (huc 0 a rfl)
        have cu' := (hbel.cell (p := ⟨g, i, none⟩) hgl).trans cu
        have ha := hlt a (by simp)
        have hgr := (D.out.1.below hbel).gr
        have c0 := hgr.gr.cell' (i := 0) rfl
        have lg' := hgr.gr.lt
        have bz := hbel.size
        have hgu' : gu < wr.heap.size := by omega
        have hi' : (i : Int) < (np : Int) := by omega
        have hlp : (0 : Int) < ((a :: tl).length : Int) := by simp
        obtain ⟨ml, hml⟩ : ∃ ml, ml = (a :: tl).length := ⟨_, rfl⟩
        rw [← hml] at cu' hlp
        rw [Nat.add_zero] at cx
        obtain ⟨oa, oc, rfl⟩ := own_slice hown
        have hlo : ∀ q, Value.ownBlock (.slice oa i oc) = some q → W1.heap.size ≤ q := fun q hq => (hown.lt q hq).1
        have ng : Value.ownBlock (.slice oa i oc) ≠ some bg := fun e => own_blk_ne hown hgr.gr (by decide) e.symm
        have nu : Value.ownBlock (.slice oa i oc) ≠ some gu := fun e => by have := hlo gu e; omega
        have hgo := goes_code bl 79 _ (rea m (relE l)) a a wr.drew hgr.ln (lnkC_reach (relE l) (rea m (relE l)) ha) ha ha
        have hstep : boolL ((loopsV (m : Int) l).take (i + 1)) = boolL ((loopsV (m : Int) l).take i) ++ [.bool (rea m (relE l) a a)] := by
          have h1 := loopsV_at (n := (m : Int)) (l := l) (i := i) (cc := a :: tl) (by rw [M.out.2.2.2.1]; exact hcc)
          rw [M.out.2.2.1] at h1
          unfold boolL
          rw [List.take_add_one, h1, List.map_append]; rfl
        obtain ⟨rb, hrb⟩ : ∃ rb, rb = rea m (relE l) a a := ⟨_, rfl⟩
        rw [← hrb] at hgo hstep
        have hown2 := (hown.alloc (.cells #[.bool rb] 4)).drew
        have F := Lib.hid (And.intro hown (And.intro hbel (And.intro hq hstep)))
        clear hown hbel hq hstep hgr huc cu hue hcells hex hsl hcc hne hcl hlt hml hrb
        go_wp2_with (fail)
        go_region_held_law (fun w' => w'.cell? ⟨bg, 0, none⟩ = some (.pointer (some ⟨bl, 0, none⟩)) ∧ w'.cell? ⟨gu, ou, none⟩ = some (.int .i64 (a : Int)))
          (first
            | (go_split_ands
               try simp only [World.cell?_drew]
               refine ⟨?_, ?_⟩
               · (rw [World.cell?_alloc_lt _ _ _ lg']; assumption)
               · (rw [World.cell?_alloc_lt _ _ _ hgu']; assumption))
            | (go_split_ands
               refine ⟨?_, ?_⟩
               · (rw [hgrow.cell_far _ (by simp; omega) (Ne.symm ng)]; assumption)
               · (rw [hgrow.cell_far _ (by simp; omega) (Ne.symm nu)]; assumption))
            | (try simp only [World.cell?_drew]
               refine ⟨?_, ?_⟩ <;> assumption))
          ((first
            | (go_simp; go_at_call 44; refine hgo.mono ?_; rintro e w' ⟨rfl, rfl⟩)
            | (refine step_append_lies _ (by rfl) _ _ _ (by rfl) W1.heap.size 4 i0 _ 1 1 Try.underlying44 hi0 hz0 hz1 hz2 rfl (by omega) (.slice oa i oc) i (boolL ((loopsV (m : Int) l).take i)) (by rfl) hown2
                ⟨wr.heap.size, 0, none⟩ 1 1 [.bool rb] (by rfl) (by rfl) (World.news_of_block (cs := #[.bool rb]) (t := 4) (fr := (0, 0)) (heap_alloc_new wr _)) (by simp [Value.oneCell'])
                (by omega) (by unfold maxLen; omega) (by omega) (by simp; omega) (wr.heap.size + 1) (by simp) ?_; intro gg cap2 w1 hown1 hgrow hat hlt)))
        all_goals
          have F2 := Lib.hid (And.intro hown1 hgrow)
          clear hown1 hgrow hat hlt
          go_wp2_with (fail)
          go_roundg (np - (i + 1))
          case measure => have := F.out.2.2.1; omega
          case rel =>
            refine ⟨i + 1, rfl, hin, rfl, ((gr_drew (gr_alloc F.out.2.1 (.cells #[.bool rb] 4))).grown F2.out.2 (by simp; omega) hlo), ?_⟩
            rw [F.out.2.2.2]
            exact F2.out.1
      · have ei : i = np := by omega
        subst i
        have hall : boolL ((loopsV (m : Int) l).take np) = boolL (loopsV (m : Int) l) := by
          rw [List.take_of_length_le (by rw [loopsV_len, M.out.2.2.2.1, M.out.2.2.2.2.1]; exact Nat.le_refl _)]
        rw [hall] at hown
        have F := Lib.hid (And.intro hown hbel)
        clear hown hbel hin hall
        go_wp2_with (fail)
        go_ret2
        exact ⟨_, rfl, own_cells F.out.1, gr_call D.out.2 F.out.2⟩
  · unfold vLoops
    rw [if_neg he]
    have hmd := made_err n l hl A c _ hA0 he
    obtain ⟨E, hE⟩ : ∃ E, E = (chkG n l).1 := ⟨_, rfl⟩
    obtain ⟨ln, hln⟩ : ∃ ln, ln = l.length := ⟨_, rfl⟩
    rw [← hE] at hmd he ⊢
    rw [← hln] at hmd b0 ⊢
    have H := Lib.hid (And.intro b0 hmd)
    have he' : (E != 0) = true := by simpa using he
    clear b0 hmd hA0 hA hE hln hl he
    go_enter Try.func25, Try.ntmps25
    go_wp2_with (fail)
    refine H.out.2.mono ?_
    rintro e W1 ⟨rfl, h1⟩
    have D := Lib.hid (gr_call H.out.1 h1)
    clear h1
    go_wp2_with (fail)
    go_ret2
    exact ⟨_, rfl, CellsAt.nil _, D.out⟩
end Go.Proofs.Ytjgkiiohbceocaa
