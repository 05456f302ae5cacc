/-
  (*graph).edge, slices.Concat, scc.Parts and scc.Loops, walked; conditions: at most 1000000 edges.
-/
import Derived.Test.YtjgkiiohbceocaaScO
namespace Go.Proofs.Ytjgkiiohbceocaa
open Go.RowKit
set_option linter.unusedVariables false
set_option linter.unusedSimpArgs false

/-- A list of nodes that lies there. -/
structure NatsAt (W : World) (v : Value) (l : List Nat) : Prop where
  ex : ∃ A c, v = .slice A l.length c ∧ (l ≠ [] → ∃ g o, A = some ⟨g, o, none⟩ ∧ g < W.heap.size ∧ ∀ (j x : Nat), l[j]? = some x → W.cell? ⟨g, o + j, none⟩ = some (.int .i64 (x : Int)))
theorem NatsAt.below {W W' : World} {v : Value} {l : List Nat} (h : NatsAt W v l) (hb : Below W.heap.size W W') : NatsAt W' v l := by
  obtain ⟨A, c, h1, h2⟩ := h.ex
  refine ⟨A, c, h1, fun hn => ?_⟩
  obtain ⟨g, o, h3, h4, h5⟩ := h2 hn
  exact ⟨g, o, h3, Nat.lt_of_lt_of_le h4 hb.size, fun j x hj => by rw [hb.cell (p := ⟨g, o + j, none⟩) h4]; exact h5 j x hj⟩
theorem OwnN.at_ {W : World} {B : Nat} {v : Value} {l : List Nat} (h : OwnN W B v l) : NatsAt W v l := by
  rcases h.2 with ⟨h1, h0⟩ | ⟨g, cap, cur, h1, h2, h3, _, _, _, h7⟩
  · exact ⟨none, 0, by rw [h1, h0], fun hn => absurd (List.length_eq_zero_iff.1 h0) hn⟩
  · refine ⟨some ⟨g, 0, none⟩, cap, h1, fun _ => ⟨g, 0, rfl, (Array.getElem?_eq_some_iff.1 h3).1, fun j x hj => ?_⟩⟩
    rw [Nat.zero_add, cell_of_row W g j cur _ _ h3]
    have hu : (natC l)[j]? = some (.int .i64 (x : Int)) := by unfold natC; rw [List.getElem?_map, hj]; rfl
    have hk := (List.getElem?_eq_some_iff.1 hj).1
    rw [← h7, List.getElem?_take, if_pos (by omega)] at hu
    simpa using hu
/-- A list of lists that lies there. -/
structure LLAt (W : World) (v : Value) (ls : List (List Nat)) : Prop where
  ex : ∃ A c, v = .slice A ls.length c ∧ (ls ≠ [] → ∃ g, A = some ⟨g, 0, none⟩ ∧ g < W.heap.size ∧ ∀ (j : Nat) (l : List Nat), ls[j]? = some l → ∃ u, W.cell? ⟨g, j, none⟩ = some u ∧ NatsAt W u l)
theorem LLAt.below {W W' : World} {v : Value} {ls : List (List Nat)} (h : LLAt W v ls) (hb : Below W.heap.size W W') : LLAt W' v ls := by
  obtain ⟨A, c, h1, h2⟩ := h.ex
  refine ⟨A, c, h1, fun hn => ?_⟩
  obtain ⟨g, h3, h4, h5⟩ := h2 hn
  refine ⟨g, h3, Nat.lt_of_lt_of_le h4 hb.size, fun j l hj => ?_⟩
  obtain ⟨u, h6, h7⟩ := h5 j l hj
  exact ⟨u, by rw [hb.cell (p := ⟨g, j, none⟩) h4]; exact h6, h7.below hb⟩
theorem OwnLL.at_ {W : World} {B : Nat} {v : Value} {ls : List (List Nat)} (h : OwnLL W B v ls) : LLAt W v ls := by
  obtain ⟨vs, h1, h2⟩ := h
  have hl := h2.len
  rcases h1.2 with ⟨h3, h0⟩ | ⟨g, cap, cur, h3, h4, h5, _, _, _, h7⟩
  · exact ⟨none, 0, by rw [h3, h0], fun hn => absurd (List.length_eq_zero_iff.1 h0) hn⟩
  · refine ⟨some ⟨g, 0, none⟩, cap, h3, fun _ => ⟨g, rfl, (Array.getElem?_eq_some_iff.1 h5).1, fun j l hj => ?_⟩⟩
    have hk := (List.getElem?_eq_some_iff.1 hj).1
    obtain ⟨u, hu⟩ : ∃ u, vs[j]? = some u := ⟨_, List.getElem?_eq_getElem (by omega)⟩
    refine ⟨u, ?_, (h2.at_ j l u hj hu).at_⟩
    rw [cell_of_row W g j cur _ _ h5, ← hu, ← h7, List.getElem?_take, if_pos (by omega)]
    simp
/-- A graph that was made, for those that read it. -/
structure GrAt (W : World) (bg bl n : Nat) (E : Nat → Nat → Bool) (ls : List (List Nat)) (pv kv : Value) : Prop where
  gr : GrOk W bg bl n E pv kv
  ll : LLAt W pv ls
theorem GrAt.below {W W' : World} {bg bl n : Nat} {E : Nat → Nat → Bool} {ls : List (List Nat)} {pv kv : Value} (h : GrAt W bg bl n E ls pv kv) (hb : Below W.heap.size W W') : GrAt W' bg bl n E ls pv kv :=
  ⟨h.gr.below hb h.gr.gr.lt h.gr.ln.lt, h.ll.below hb⟩

/-! Whether there is an edge, step by step. -/
def edgTo (E : Nat → Nat → Bool) (b : List Nat) (a : List Nat) (i : Nat) : Bool := (a.take i).any fun x => b.any fun y => E x y
theorem edgTo_zero (E : Nat → Nat → Bool) (b a : List Nat) : edgTo E b a 0 = false := by simp [edgTo]
theorem edgTo_all (E : Nat → Nat → Bool) (b a : List Nat) : edgTo E b a a.length = edgL E a b := by unfold edgTo edgL; rw [List.take_length]
theorem edgTo_step {E : Nat → Nat → Bool} {b a : List Nat} {i x : Nat} (hx : a[i]? = some x) (h0 : edgTo E b a i = false) : edgTo E b a (i + 1) = b.any fun y => E x y := by
  unfold edgTo at h0 ⊢
  rw [List.take_add_one, hx, List.any_append, h0, Bool.false_or]
  simp
theorem any_step {E : Nat → Nat → Bool} {b : List Nat} {x j y : Nat} (hy : b[j]? = some y) (h0 : ((b.take j).any fun y => E x y) = false) : ((b.take (j + 1)).any fun y => E x y) = E x y := by
  rw [List.take_add_one, hy, List.any_append, h0, Bool.false_or]
  simp
theorem any_found {E : Nat → Nat → Bool} {b : List Nat} {x j y : Nat} (hy : b[j]? = some y) (h : E x y = true) : (b.any fun y => E x y) = true :=
  List.any_eq_true.2 ⟨y, List.mem_of_getElem? hy, h⟩
theorem edg_found {E : Nat → Nat → Bool} {a b : List Nat} {x i : Nat} (hx : a[i]? = some x) (h : (b.any fun y => E x y) = true) : edgL E a b = true :=
  List.any_eq_true.2 ⟨x, List.mem_of_getElem? hx, h⟩

set_option maxRecDepth 100000 in
set_option maxHeartbeats 4000000 in
theorem edge_code (n : Nat) (hn : n ≤ 64) (E : Nat → Nat → Bool) (ls : List (List Nat)) (hls : ls.length ≤ 64) (hlt : ∀ l ∈ ls, l ≠ [] ∧ l.length ≤ 64 ∧ ∀ x ∈ l, x < 64) (bg bl i k : Nat) (hi : i < ls.length) (hk : k < ls.length) (pv kv : Value) (w : World) (hg : GrAt w bg bl n E ls pv kv) :
    Calls Try.prog 49 #[.pointer (some ⟨bg, 0, none⟩), .int .i64 (i : Int), .int .i64 (k : Int)] w fun e w' => e = .returned (.bool (edgP E ls i k)) ∧ w = w' := by
  obtain ⟨A, c, rfl, hA⟩ := hg.ll.ex
  obtain ⟨g, rfl, hgl, hc⟩ := hA (fun e => by subst e; simp at hi)
  obtain ⟨la, hla⟩ : ∃ l, ls[i]? = some l := ⟨_, List.getElem?_eq_getElem hi⟩
  obtain ⟨lb, hlb⟩ : ∃ l, ls[k]? = some l := ⟨_, List.getElem?_eq_getElem hk⟩
  obtain ⟨ua, ca, ⟨Aa, c1, hua, ha⟩⟩ := hc i la hla
  obtain ⟨ub, cb, ⟨Ab, c2, hub, hb⟩⟩ := hc k lb hlb
  obtain ⟨hna, hla64, hxa⟩ := hlt la (List.mem_of_getElem? hla)
  obtain ⟨hnb, hlb64, hxb⟩ := hlt lb (List.mem_of_getElem? hlb)
  obtain ⟨ga, oa, rfl, gal, hca⟩ := ha hna
  obtain ⟨gb, ob, rfl, gbl, hcb⟩ := hb hnb
  subst hua hub
  have hres : edgP E ls i k = edgL E la lb := by unfold edgP; rw [hla, hlb]; rfl
  rw [hres]
  have g2 := hg.gr.gr.cell' (i := 2) rfl
  have g0 := hg.gr.gr.cell' (i := 0) rfl
  have gll := hg.gr.gr.lt
  have lln := hg.gr.ln.lt
  have hi' : (i : Int) < (ls.length : Int) := by omega
  have hk' : (k : Int) < (ls.length : Int) := by omega
  obtain ⟨na, hna'⟩ : ∃ m, m = la.length := ⟨_, rfl⟩
  obtain ⟨nb, hnb'⟩ : ∃ m, m = lb.length := ⟨_, rfl⟩
  rw [← hna'] at ca hla64
  rw [← hnb'] at cb hlb64
  have H := Lib.hid (And.intro hg.gr.ln (And.intro hca (And.intro hcb (And.intro hna' (And.intro hnb' (And.intro hxa hxb))))))
  clear hg hc hca hcb hxa hxb hna hnb hres hna' hnb' hla hlb hlt ha hb hA
  go_enter Try.func49, Try.ntmps49
  go_wp2_with (fail)
  go_loopw [19] (fun iv wr => ∃ p : Nat, p ≤ na ∧ iv = .int .i64 (p : Int) ∧ edgTo E lb la p = false ∧ w = wr) (fun iv _ => na - (intOf iv).toNat)
  case atStart => exact ⟨0, Nat.zero_le _, rfl, edgTo_zero _ _ _, rfl⟩
  case round =>
    obtain ⟨p, hp, rfl, he, rfl⟩ := hrel
    by_cases hpn : p < na
    · obtain ⟨x, hx⟩ : ∃ x, la[p]? = some x := ⟨_, List.getElem?_eq_getElem (by rw [← H.out.2.2.2.1]; exact hpn)⟩
      have cx := H.out.2.1 p x hx
      have hx64 : x < 64 := H.out.2.2.2.2.2.1 x (List.mem_of_getElem? hx)
      have hp' : (p : Int) < (na : Int) := by omega
      have B := Lib.hid (And.intro he hx)
      clear he hx
      go_wp2_with (fail)
      go_loopw [31] (fun jv wr => ∃ q : Nat, q ≤ nb ∧ jv = .int .i64 (q : Int) ∧ ((lb.take q).any fun y => E x y) = false ∧ w = wr) (fun jv _ => nb - (intOf jv).toNat)
      case atStart => exact ⟨0, Nat.zero_le _, rfl, by simp, rfl⟩
      case round =>
        obtain ⟨q, hq, rfl, hf, rfl⟩ := hrel
        by_cases hqn : q < nb
        · obtain ⟨y, hy⟩ : ∃ y, lb[q]? = some y := ⟨_, List.getElem?_eq_getElem (by rw [← H.out.2.2.2.2.1]; exact hqn)⟩
          have cy := H.out.2.2.1 q y hy
          have hy64 : y < 64 := H.out.2.2.2.2.2.2 y (List.mem_of_getElem? hy)
          have hq' : (q : Int) < (nb : Int) := by omega
          have hx7 : (x : Int) < 64 := by omega
          have hy7 : (y : Int) < 64 := by omega
          have wy : IntKind.u64.wrap (y : Int) = (y : Int) := IntWalk.u64_in _ (by omega)
          obtain ⟨X, hX⟩ : ∃ X, X = rowW E x := ⟨_, rfl⟩
          have hXl : X < 18446744073709551616 := by rw [hX]; exact rowW_lt _ _
          have hX0 : 0 ≤ (X : Int) := by omega
          have hX1 : (X : Int) < 18446744073709551616 := by omega
          have cw := H.out.1.cell' (lnkC_next E (rea n E) hx64)
          rw [← hX] at cw
          have hbt : (bits .and .u64 ((X : Int) / 2 ^ y) 1 == 1) = E x y := by rw [bit_test _ _ hXl, hX, rowW_bit _ _ _ hy64]
          have D := Lib.hid (And.intro hf hy)
          clear hf hy hX hXl
          cases hE : E x y with
          | true =>
            rw [hE] at hbt
            have hbt' : bits .and .u64 ((X : Int) / 2 ^ y) 1 = 1 := by simpa using hbt
            have F := Lib.hid hE
            clear hE hbt
            go_wp2_with (fail)
            go_ret
            exact ⟨ret_bool (edg_found B.out.2 (any_found D.out.2 F.out)).symm, rfl⟩
          | false =>
            rw [hE] at hbt
            have F := Lib.hid hE
            clear hE
            go_wp2_with (fail)
            go_roundw
            case rel => exact ⟨q + 1, hqn, rfl, by rw [any_step D.out.2 D.out.1]; exact F.out, by first | rfl | trivial⟩
            case measure => simp [intOf]; omega
        · have eq : q = nb := by omega
          subst q
          have D := Lib.hid hf
          clear hf hqn
          go_wp2_with (fail)
          go_roundw
          case rel =>
            refine ⟨p + 1, hpn, rfl, ?_, by first | rfl | trivial⟩
            rw [edgTo_step B.out.2 B.out.1]
            have := D.out
            rwa [H.out.2.2.2.2.1, List.take_length] at this
          case measure => simp [intOf]; omega
    · have ep : p = na := by omega
      subst p
      have B := Lib.hid he
      clear he hpn
      go_wp2_with (fail)
      go_ret
      refine ⟨ret_bool ?_, rfl⟩
      have := B.out
      rw [H.out.2.2.2.1, edgTo_all] at this
      exact this.symm
end Go.Proofs.Ytjgkiiohbceocaa
