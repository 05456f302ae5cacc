/-
  The reference's Text, Ends, Still, and Codes of both, walked; condition: the table of codes lies as it is laid.
-/
import Derived.Test.YtlipjagdlpkjpaaDoorFtR
import Derived.Test.YtlipjagdlpkjpaaDoorFtJ
import Derived.Test.YtlipjagdlpkjpaaDoorSmI
import Derived.Lib.AppendZeros
namespace Go.Proofs.YtlipjagdlpkjpaaDoor
open Go.RowKit
set_option linter.unusedVariables false
set_option linter.unusedSimpArgs false

theorem grow_size {l : List ByteArray} (h : ∀ x ∈ l, x.size ≤ 102) : ∀ k, (growT l k).size ≤ 1 + 103 * k := by
  intro k
  induction k with
  | zero => exact Nat.le_refl _
  | succ k ih =>
    unfold growT
    rw [ByteArray.size_append, ByteArray.size_append]
    have h1 : (l.getD k ⟨#[]⟩).size ≤ 102 := by
      rw [List.getD_eq_getElem?_getD]
      cases e : l[k]? with
      | none => exact Nat.zero_le _
      | some x => exact h x (List.mem_of_getElem? e)
    have h2 : (if k = 0 then (⟨#[]⟩ : ByteArray) else ⟨#[44]⟩).size ≤ 1 := by split <;> decide
    omega
theorem grow_first (l : List ByteArray) : growT l 1 = growT l 0 ++ l.getD 0 ⟨#[]⟩ := by
  show growT l 0 ++ (⟨#[]⟩ : ByteArray) ++ _ = _
  congr 1
theorem grow_next {l : List ByteArray} {k : Nat} (h : 0 < k) : growT l (k + 1) = growT l k ++ ⟨#[44]⟩ ++ l.getD k ⟨#[]⟩ := by
  conv => lhs; unfold growT
  rw [if_neg (by omega)]
def TextRel (l : List ByteArray) (w : World) (v : Value) (o i : Value) (wr : World) : Prop :=
  ∃ k : Nat, k ≤ l.length ∧ i = .int .i64 (k : Int) ∧ o = .string (growT l k) ∧ wr.ownsRow w.heap.size 9 1 v l.length (l.map .string) ∧ Below w.heap.size w wr

set_option maxRecDepth 100000 in
set_option maxHeartbeats 2000000 in
theorem rtext (f : Flg) (hb : (-9223372036854775808 ≤ f.skip ∧ f.skip ≤ 9223372036854775807)) (w : World) :
    Calls Tryd.prog 13 #[Value.agg #[Value.bool f.last, .bool f.next, .bool f.chain, .bool f.fin, .bool f.forb, .bool f.gone, .bool f.app, .bool f.disc, .int .i64 f.skip, .int .i64 f.red]] w fun e W' => e = .returned (.tuple #[.string (textV f), .int .i64 (chkF f)]) ∧ Below w.heap.size w W' := by
  have i0 := gr_alloc (Below.refl w.heap.size w) (.cells #[Value.bool f.last, .bool f.next, .bool f.chain, .bool f.fin, .bool f.forb, .bool f.gone, .bool f.app, .bool f.disc, .int .i64 f.skip, .int .i64 f.red] 24)
  have f0 := Blk.new w 24 #[Value.bool f.last, .bool f.next, .bool f.chain, .bool f.fin, .bool f.forb, .bool f.gone, .bool f.app, .bool f.disc, .int .i64 f.skip, .int .i64 f.red]
  have H0 := Lib.hid (And.intro f0 i0)
  clear f0 i0
  go_enter Tryd.func13, Tryd.ntmps13
  go_wp2_with (fail)
  refine (rcheck f hb _).mono ?_
  rintro e W1 ⟨rfl, h1⟩
  have H1 := Lib.hid (And.intro (H0.out.1.call h1) (gr_call H0.out.2 h1))
  clear h1 H0
  obtain ⟨ce, hce⟩ : ∃ ce, ce = chkF f := ⟨_, rfl⟩
  have HC := Lib.hid hce
  rw [← hce]
  clear hce
  by_cases hc0 : ce = 0
  · have q : (ce != 0) = false := by simp; exact hc0
    have hC : chkF f = 0 := HC.out.symm.trans hc0
    obtain ⟨z1, z2, z3, z4⟩ := chkF_zero hC
    have HZ := Lib.hid (And.intro hC (And.intro z3 (parts_size hC)))
    have hpl := partsL_len f
    clear hc0 hC z3 z4
    have k0 : W1.cell? ⟨w.heap.size, 0, none⟩ = some (.bool f.last) := H1.out.1.cell' (i := 0) rfl
    have k1 : W1.cell? ⟨w.heap.size, 1, none⟩ = some (.bool f.next) := H1.out.1.cell' (i := 1) rfl
    have k2 : W1.cell? ⟨w.heap.size, 2, none⟩ = some (.bool f.chain) := H1.out.1.cell' (i := 2) rfl
    have k3 : W1.cell? ⟨w.heap.size, 3, none⟩ = some (.bool f.fin) := H1.out.1.cell' (i := 3) rfl
    have k4 : W1.cell? ⟨w.heap.size, 4, none⟩ = some (.bool f.forb) := H1.out.1.cell' (i := 4) rfl
    have k5 : W1.cell? ⟨w.heap.size, 5, none⟩ = some (.bool f.gone) := H1.out.1.cell' (i := 5) rfl
    have k6 : W1.cell? ⟨w.heap.size, 6, none⟩ = some (.bool f.app) := H1.out.1.cell' (i := 6) rfl
    have k7 : W1.cell? ⟨w.heap.size, 7, none⟩ = some (.bool f.disc) := H1.out.1.cell' (i := 7) rfl
    have k8 : W1.cell? ⟨w.heap.size, 8, none⟩ = some (.int .i64 f.skip) := H1.out.1.cell' (i := 8) rfl
    have k9 : W1.cell? ⟨w.heap.size, 9, none⟩ = some (.int .i64 f.red) := H1.out.1.cell' (i := 9) rfl
    have klt := H1.out.1.lt
    go_wp2_with (fail)
    refine (rparts f ⟨z1, z2⟩ HZ.out.2.1 _).mono ?_
    rintro e W2 ⟨v, rfl, hown, h2w⟩
    clear k0 k1 k2 k3 k4 k5 k6 k7 k8 k9 klt
    obtain ⟨l, hl⟩ : ∃ l, l = partsL f := ⟨_, rfl⟩
    rw [← hl] at hown hpl
    have hown0 := own_weaken hown H1.out.2.size
    have HB := Lib.hid (And.intro hl (And.intro hown0 (gr_call H1.out.2 h2w)))
    clear hl h2w hown hown0
    obtain ⟨va, vc, rfl⟩ := own_slice HB.out.2.1
    by_cases h0 : 0 < l.length
    · have h1 : ((l.length : Int) == 0) = false := beq_eq_false_iff_ne.2 (by omega)
      go_wp2_with (fail)
      go_loopw [6, 7] (fun o i wr => TextRel l w (.slice va l.length vc) o i wr) (fun _ i _ => l.length - (intOf i).toNat)
      case atStart => exact ⟨0, Nat.zero_le _, rfl, rfl, HB.out.2.1, HB.out.2.2⟩
      case round =>
        obtain ⟨k, hk, rfl, rfl, hown, hbel⟩ := hrel
        have hgs := grow_size (l := l) (by rw [HB.out.1]; exact HZ.out.2.2) k
        by_cases hlt : k < l.length
        · obtain ⟨g, cap, hgv, hgN, hgl, hgc⟩ := own_form hown h0
          obtain ⟨rfl, rfl⟩ : va = some ⟨g, 0, none⟩ ∧ vc = cap := by simpa using hgv
          obtain ⟨x, hx⟩ : ∃ x, x = l.getD k ⟨#[]⟩ := ⟨_, rfl⟩
          have hc : wr.cell? ⟨g, k, none⟩ = some (.string x) := by
            have := hown.cells (g := g) rfl k (.string x) (by rw [List.getElem?_map, hx, List.getD_eq_getElem?_getD, List.getElem?_eq_getElem hlt]; rfl)
            rw [Addr.add_lit, Nat.zero_add] at this
            exact this
          have hxs : x.size ≤ 102 := by
            rw [hx, List.getD_eq_getElem?_getD, List.getElem?_eq_getElem hlt]
            exact HZ.out.2.2 _ (by rw [← HB.out.1]; exact List.getElem_mem _)
          have H := Lib.hid (And.intro hx (And.intro hown hbel))
          clear hown hbel hgv hx
          by_cases hk0 : k = 0
          · subst hk0
            have hg1 := grow_first l
            rw [← H.out.1] at hg1
            obtain ⟨o, ho⟩ : ∃ o, o = growT l 0 := ⟨_, rfl⟩
            rw [← ho] at hg1 hgs ⊢
            have HO := Lib.hid (And.intro ho hg1)
            clear ho hg1
            go_wp2_with (fail)
            exact ⟨⟨1, by omega, by go_num, by rw [HO.out.2], H.out.2.1, H.out.2.2⟩, by simp [intOf]; omega⟩
          · have hkp : 0 < k := by omega
            have hg1 := grow_next (l := l) hkp
            rw [← H.out.1] at hg1
            obtain ⟨o, ho⟩ : ∃ o, o = growT l k := ⟨_, rfl⟩
            rw [← ho] at hg1 hgs ⊢
            have HO := Lib.hid (And.intro ho hg1)
            have hkp2 : (0 : Int) < (k : Int) := by omega
            clear ho hg1 hk0
            go_wp2_with (fail)
            exact ⟨⟨k + 1, by omega, by go_num, by rw [HO.out.2], H.out.2.1, H.out.2.2⟩, by simp [intOf]; omega⟩
        · obtain rfl : k = l.length := by omega
          have hne : l ≠ [] := fun e => by rw [e] at h0; exact absurd h0 (by decide)
          have hga := grow_all l hne
          obtain ⟨o, ho⟩ : ∃ o, o = growT l l.length := ⟨_, rfl⟩
          rw [← ho] at hga hgs ⊢
          have ht : Hid (textV f = o ++ ⟨#[93]⟩) := Lib.hid (by unfold textV textF; rw [if_pos HZ.out.1, ← HB.out.1, hga])
          have H := Lib.hid hbel
          clear hown hbel hga ho hne
          go_wp2_with (fail)
          go_ret2
          exact ⟨by rw [ht.out, HZ.out.1] <;> rfl, H.out⟩
    · have h1 : ((l.length : Int) == 0) = true := beq_iff_eq.2 (by omega)
      have ht : Hid (textV f = ⟨#[]⟩) := Lib.hid (by unfold textV textF textL; rw [if_pos HZ.out.1, ← HB.out.1, if_pos (List.eq_nil_of_length_eq_zero (by omega))])
      clear h0
      go_wp2_with (fail)
      go_ret2
      exact ⟨by rw [ht.out, HZ.out.1] <;> rfl, HB.out.2.2⟩
  · have q : (ce != 0) = true := by simp; exact hc0
    have ht : Hid (textV f = ⟨#[]⟩) := Lib.hid (by unfold textV; rw [if_neg (by rw [← HC.out]; exact hc0)])
    clear hc0
    go_wp2_with (fail)
    go_ret2
    exact ⟨by rw [ht.out, ← HC.out] <;> rfl, H1.out.2⟩

def bare (f : Flg) : Flg := ⟨f.last, f.next, f.chain, f.fin, f.forb, f.gone, false, false, f.skip, f.red⟩
theorem bare_parts (f : Flg) : partsL (bare f) = waysL f := by
  show wayL f 6 ++ [] ++ (skipL f ++ redL f) = _
  rw [List.append_nil, ← List.append_assoc]
  rfl

set_option maxRecDepth 100000 in
set_option maxHeartbeats 2000000 in
theorem rEnds (f : Flg) (hb : (-9223372036854775808 ≤ f.skip ∧ f.skip ≤ 9223372036854775807)) (w : World) :
    Calls Tryd.prog 15 #[Value.agg #[Value.bool f.last, .bool f.next, .bool f.chain, .bool f.fin, .bool f.forb, .bool f.gone, .bool f.app, .bool f.disc, .int .i64 f.skip, .int .i64 f.red]] w fun e W' => e = .returned (.tuple #[.string (endsV f), .int .i64 (chkF f)]) ∧ Below w.heap.size w W' := by
  have i0 := gr_alloc (Below.refl w.heap.size w) (.cells #[Value.bool f.last, .bool f.next, .bool f.chain, .bool f.fin, .bool f.forb, .bool f.gone, .bool f.app, .bool f.disc, .int .i64 f.skip, .int .i64 f.red] 24)
  have f0 := Blk.new w 24 #[Value.bool f.last, .bool f.next, .bool f.chain, .bool f.fin, .bool f.forb, .bool f.gone, .bool f.app, .bool f.disc, .int .i64 f.skip, .int .i64 f.red]
  have H0 := Lib.hid (And.intro f0 i0)
  clear f0 i0
  go_enter Tryd.func15, Tryd.ntmps15
  go_wp2_with (fail)
  refine (rcheck f hb _).mono ?_
  rintro e W1 ⟨rfl, h1⟩
  have H1 := Lib.hid (And.intro (H0.out.1.call h1) (gr_call H0.out.2 h1))
  clear h1 H0
  obtain ⟨ce, hce⟩ : ∃ ce, ce = chkF f := ⟨_, rfl⟩
  have HC := Lib.hid hce
  rw [← hce]
  clear hce
  by_cases hc0 : ce = 0
  · have q : (ce != 0) = false := by simp; exact hc0
    have hC : chkF f = 0 := HC.out.symm.trans hc0
    obtain ⟨z1, z2, z3, z4⟩ := chkF_zero hC
    have HZ := Lib.hid (And.intro hC z3)
    clear hc0 hC z3 z4
    have k0 : W1.cell? ⟨w.heap.size, 0, none⟩ = some (.bool f.last) := H1.out.1.cell' (i := 0) rfl
    have k1 : W1.cell? ⟨w.heap.size, 1, none⟩ = some (.bool f.next) := H1.out.1.cell' (i := 1) rfl
    have k2 : W1.cell? ⟨w.heap.size, 2, none⟩ = some (.bool f.chain) := H1.out.1.cell' (i := 2) rfl
    have k3 : W1.cell? ⟨w.heap.size, 3, none⟩ = some (.bool f.fin) := H1.out.1.cell' (i := 3) rfl
    have k4 : W1.cell? ⟨w.heap.size, 4, none⟩ = some (.bool f.forb) := H1.out.1.cell' (i := 4) rfl
    have k5 : W1.cell? ⟨w.heap.size, 5, none⟩ = some (.bool f.gone) := H1.out.1.cell' (i := 5) rfl
    have k6 : W1.cell? ⟨w.heap.size, 6, none⟩ = some (.bool f.app) := H1.out.1.cell' (i := 6) rfl
    have k7 : W1.cell? ⟨w.heap.size, 7, none⟩ = some (.bool f.disc) := H1.out.1.cell' (i := 7) rfl
    have k8 : W1.cell? ⟨w.heap.size, 8, none⟩ = some (.int .i64 f.skip) := H1.out.1.cell' (i := 8) rfl
    have k9 : W1.cell? ⟨w.heap.size, 9, none⟩ = some (.int .i64 f.red) := H1.out.1.cell' (i := 9) rfl
    have klt := H1.out.1.lt
    have q6 := H1.out.1.frozen 6
    have q7 := H1.out.1.frozen 7
    have hX : Blk ((W1.setCell ⟨w.heap.size, 6, none⟩ (.bool false)).setCell ⟨w.heap.size, 7, none⟩ (.bool false)) w.heap.size 24 #[Value.bool ((bare f)).last, .bool ((bare f)).next, .bool ((bare f)).chain, .bool ((bare f)).fin, .bool ((bare f)).forb, .bool ((bare f)).gone, .bool ((bare f)).app, .bool ((bare f)).disc, .int .i64 ((bare f)).skip, .int .i64 ((bare f)).red] := (H1.out.1.set_ 6 _).set_ 7 _
    have hXb := (H1.out.2.setCell (p := ⟨w.heap.size, 6, none⟩) (Nat.le_refl _) (.bool false)).setCell (p := ⟨w.heap.size, 7, none⟩) (Nat.le_refl _) (.bool false)
    have HX := Lib.hid (And.intro hX hXb)
    clear hX hXb
    go_wp2_with (fail)
    refine (rparts (bare f) ⟨z1, z2⟩ HZ.out.2 _).mono ?_
    rintro e W2 ⟨v, rfl, hown, h2w⟩
    clear k0 k1 k2 k3 k4 k5 k6 k7 k8 k9 klt q6 q7
    rw [bare_parts] at hown
    obtain ⟨l, hl⟩ : ∃ l, l = waysL f := ⟨_, rfl⟩
    rw [← hl] at hown
    have HB := Lib.hid (And.intro hl (gr_call HX.out.2 h2w))
    clear hl h2w
    obtain ⟨va, vcap, rfl⟩ := own_slice hown
    by_cases h0 : 0 < l.length
    · obtain ⟨g, cap, hgv, hgN, hgl, hgc⟩ := own_form hown h0
      obtain ⟨rfl, rfl⟩ : va = some ⟨g, 0, none⟩ ∧ vcap = cap := by simpa using hgv
      have hc : W2.cell? ⟨g, 0, none⟩ = some (.string (l.getD 0 ⟨#[]⟩)) := by
        have := hown.cells (g := g) rfl 0 (.string (l.getD 0 ⟨#[]⟩)) (by rw [List.getElem?_map, List.getD_eq_getElem?_getD, List.getElem?_eq_getElem h0]; rfl)
        rw [Addr.add_lit] at this
        exact this
      obtain ⟨x, hx⟩ : ∃ x, x = l.getD 0 ⟨#[]⟩ := ⟨_, rfl⟩
      have HXX := Lib.hid hx
      rw [← hx] at hc
      have h1 : ((l.length : Int) == 0) = false := beq_eq_false_iff_ne.2 (by omega)
      clear hown hgv hx
      go_wp2_with (fail)
      go_ret2
      exact ⟨by unfold endsV; rw [if_pos HZ.out.1, HZ.out.1, ← HB.out.1, ← HXX.out] <;> rfl, HB.out.2⟩
    · have h1 : ((l.length : Int) == 0) = true := beq_iff_eq.2 (by omega)
      have HL := Lib.hid (List.eq_nil_of_length_eq_zero (show l.length = 0 by omega))
      clear hown h0
      go_wp2_with (fail)
      go_ret2
      exact ⟨by unfold endsV; rw [if_pos HZ.out.1, HZ.out.1, ← HB.out.1, HL.out] <;> rfl, HB.out.2⟩
  · have q : (ce != 0) = true := by simp; exact hc0
    have ht : Hid (endsV f = ⟨#[]⟩) := Lib.hid (by unfold endsV; rw [if_neg (by rw [← HC.out]; exact hc0)])
    clear hc0
    go_wp2_with (fail)
    go_ret2
    exact ⟨by rw [ht.out, ← HC.out] <;> rfl, H1.out.2⟩
end Go.Proofs.YtlipjagdlpkjpaaDoor
