/-
  row.Text, walked; conditions: how many rows, words and bytes there are.
  A region whose order is drawn, with a tail whose order is forced, where the head reads slots that the tail writes; no condition.
-/
import Derived.Test.YthpcbaamkeiffaaGreatDoorMRxA
import Derived.Test.YthpcbaamkeiffaaGreatDoorMRwK
import Derived.Test.YthpcbaamkeiffaaGreatDoorMInw
namespace Go.Proofs.YthpcbaamkeiffaaGreatDoor
open Go.RowKit
set_option linter.unusedVariables false
set_option linter.unusedSimpArgs false

/-- What Text hands back. -/
def rtV (r : Option (List UInt8) × Int) : Value := .tuple #[.string (mkB (r.1.getD [])), .int .i64 r.2]
theorem row_val {W : World} {v : Value} {ws : List Wd} (h : WordsIn W v ws) : ∃ A c, v = .slice A ws.length c := by
  obtain ⟨A, c, h, _⟩ := h
  exact ⟨A, c, h⟩

set_option maxRecDepth 100000 in
set_option maxHeartbeats 8000000 in
theorem wText (rs : List Rw) (hl : rs.length ≤ 100000) (hr : ∀ r ∈ rs, r.w.length ≤ 100000 ∧ ∀ d ∈ r.w, d.t.size ≤ 100000) (v : Value) (w : World) (hv : RowsIn w v rs) :
    Calls Tryz.prog 40 #[v] w fun e W' => e = .returned (rtV (textF (txR rs) [])) ∧ Below w.heap.size w W' := by
  obtain ⟨A, c, vs, rfl, _, hA, hvs, hin⟩ := hv
  obtain ⟨n, hn⟩ : ∃ n, n = rs.length := ⟨_, rfl⟩
  have HA := Lib.hid (And.intro hA (And.intro hin (And.intro hvs (And.intro hn hr))))
  rw [← hn] at hl ⊢
  clear hA hin hvs hn hr
  go_enter Tryz.func40, Tryz.ntmps40
  go_wp2_with (fail)
  go_loopg [12] n (fun m iv wr => ∃ (k : Nat) (out : List UInt8), m = n - k ∧ k ≤ n ∧ iv = .int .i64 (k : Int) ∧ TAt rs k out ∧ Bld w.heap.size w.heap.size (Lib.byteCells out) wr ∧ Below w.heap.size w wr)
  case atStart => exact ⟨0, [], rfl, Nat.zero_le _, rfl, TAt.start rs, Bld.fresh (Blk.new _ _ _), gr_alloc (Below.refl _ _) _⟩
  case round =>
    obtain ⟨k, out, hm, hk, rfl, hat, hbld, hbel⟩ := hrel
    have hWz := hbel.size
    have hol := hat.2.1
    by_cases hlt : k < n
    · obtain ⟨r, hr⟩ : ∃ r, rs[k]? = some r := ⟨_, List.getElem?_eq_getElem (by rw [← HA.out.2.2.2.1]; exact hlt)⟩
      obtain ⟨u, hu⟩ : ∃ u, vs[k]? = some u := ⟨_, List.getElem?_eq_getElem (by rw [HA.out.2.2.1, ← HA.out.2.2.2.1]; exact hlt)⟩
      obtain ⟨ab, ao, rfl, hab, c0, c1⟩ := cells_rw (HA.out.1.below hbel) hr hu
      have hwi := HA.out.2.1 k r u hr hu
      obtain ⟨B, d, rfl⟩ := row_val hwi
      obtain ⟨hrw, hrd⟩ := HA.out.2.2.2.2 r (List.mem_of_getElem? hr)
      by_cases hw0 : r.w = []
      · have hrl : ((r.w.length : Nat) : Int) = 0 := by rw [hw0]; rfl
        have F := Lib.hid (And.intro (hat.noW hr hw0) hbel)
        clear hm hat hbel hbld hr hu hwi hrd hw0
        go_wp2_with (fail)
        go_ret2
        exact ⟨by rw [F.out.1]; rfl, by first | exact F.out.2 | exact gr_alloc F.out.2 _⟩
      · have hr0 : ((r.w.length : Int) == 0) = false := beq_eq_false_iff_ne.2 (by have := List.length_pos_iff.2 hw0; omega)
        have F := Lib.hid (And.intro hm (And.intro hat (And.intro hbel (And.intro hbld (And.intro hr (And.intro hw0 (And.intro hrd hwi)))))))
        clear hm hat hbel hbld hr hu hwi hw0 hrd
        go_wp2_with (fail)
        have hla := F.out.2.2.2.1.alloc (.cells #[.int .i64 (r.a : Int), .slice B r.w.length d] 77)
        refine (Bld_Len _ _ out _ hla (Nat.le_refl _)).mono ?_
        rintro e W1 ⟨rfl, rfl⟩
        clear hla
        go_wp2_with (fail)
        go_loopg [24] r.w.length (fun m jv wx => ∃ j : Nat, m = r.w.length - j ∧ j ≤ r.w.length ∧ jv = .int .i64 (j : Int) ∧ Bld w.heap.size w.heap.size (Lib.byteCells (out ++ preT r j)) wx ∧ Below w.heap.size w wx)
        case atStart => exact ⟨0, rfl, Nat.zero_le _, rfl, by rw [preT_zero, List.append_nil]; exact F.out.2.2.2.1.alloc _, gr_alloc F.out.2.2.1 _⟩
        case round =>
          obtain ⟨j, hm, hj, rfl, hbx, hBx⟩ := hrel
          have hWx := hBx.size
          have hpl := preT_len 100000 j F.out.2.2.2.2.2.2.1
          have hpm : r.w.length * (4 * 100000 + 3) ≤ 100000 * (4 * 100000 + 3) := Nat.mul_le_mul_right _ hrw
          have hl1 : (out ++ preT r j).length ≤ 50000000000 := by rw [List.length_append]; omega
          clear hpl hpm
          by_cases hjl : j < r.w.length
          · obtain ⟨q, hq⟩ : ∃ q, r.w[j]? = some q := ⟨_, List.getElem?_eq_getElem hjl⟩
            obtain ⟨B2, d2, he, _, hcB⟩ := F.out.2.2.2.2.2.2.2.below hBx
            cases he
            obtain ⟨bb, bo, rfl, hbb, e0, e1, e2⟩ := cells_wd hcB hq
            have hqs := F.out.2.2.2.2.2.2.1 q (List.mem_of_getElem? hq)
            have hwl := wrW_len q.t.data.toList
            rw [size_data] at hwl
            obtain ⟨x, hx⟩ : ∃ x, x = wrW q.t.data.toList := ⟨_, rfl⟩
            obtain ⟨l, hll⟩ : ∃ l, l = out ++ preT r j := ⟨_, rfl⟩
            have hcall := fun W => wWrite q.t W (by omega)
            rw [← hx] at hwl hcall
            rw [← hll] at hbx hl1
            have hxl : x.length ≤ 400002 := by omega
            have hbl := hbx.lt
            have hB1 := hbx.alloc (.cells #[.int .i64 (q.a : Int), .string q.t, .bool q.q] 116)
            have hq1 := Blk.new wr 116 #[.int .i64 (q.a : Int), .string q.t, .bool q.q]
            have hBX := gr_alloc hBx (.cells #[.int .i64 (q.a : Int), .string q.t, .bool q.q] 116)
            by_cases hj0 : 0 < j
            · have hji0 : (0 : Int) < j := by omega
              have hnx : out ++ preT r (j + 1) = (l ++ [32]) ++ x := by rw [preT_next hj0 hq, hx, hll]; simp
              have hwb := Bld_WriteByte w.heap.size w.heap.size (Lib.byteCells l) 32 _ hB1 (by simp [Lib.byteCells]; omega) hBX.size
              have G := Lib.hid (And.intro hm (And.intro hBX (And.intro hnx (And.intro hcall (And.intro hwb hq1)))))
              clear hm hBX hnx hcall hwb hq1 hB1 hBx hbx hcB hq hqs hx hll
              go_wp2_with (fail)
              refine G.out.2.2.2.2.1.mono ?_
              rintro e W1 ⟨rfl, b1, x1, o1⟩
              have hb1 : Bld w.heap.size w.heap.size (Lib.byteCells (l ++ [32])) W1 := by rw [Lib.byteCells_append]; exact b1
              have q1 := o1 _ _ _ G.out.2.2.2.2.2 (by omega) (by decide)
              have t1 := q1.cell' (i := 1) (v := .string q.t) rfl
              have zq := q1.lt
              have hBel1 := G.out.2.1.trans (x1.below (Nat.le_refl _) (Nat.le_refl _))
              have G1 := Lib.hid (And.intro hb1 hBel1)
              clear b1 x1 o1 q1 hb1 hBel1
              go_wp2_with (fail)
              refine (G.out.2.2.2.1 _).mono ?_
              rintro e W2 ⟨rfl, g2⟩
              have hb2 := G1.out.1.below g2
              have hBel2 := gr_call G1.out.2 g2
              have hws := Bld_WriteString w.heap.size w.heap.size (l ++ [32]) x _ hb2 (by rw [List.length_append, List.length_singleton]; omega) hBel2.size
              have G2 := Lib.hid (And.intro hws hBel2)
              clear hb2 hBel2 hws g2 t1 zq
              go_wp2_with (fail)
              refine G2.out.1.mono ?_
              rintro e W3 ⟨rfl, b3, x3, o3⟩
              have G3 := Lib.hid (And.intro b3 (G2.out.2.trans (x3.below (Nat.le_refl _) (Nat.le_refl _))))
              clear b3 x3 o3
              go_wp2_with (fail)
              go_roundg (r.w.length - (j + 1))
              case measure => have := G.out.1; omega
              case rel => exact ⟨j + 1, rfl, hjl, rfl, by rw [G.out.2.2.1]; exact G3.out.1, G3.out.2⟩
            · have hj1 : j = 0 := by omega
              subst hj1
              simp only [Nat.zero_mul, Nat.add_zero] at e0 e1 e2
              clear hj0
              have hnx : out ++ preT r (0 + 1) = l ++ x := by rw [hll, preT_zero, show 0 + 1 = 1 from rfl, preT_first hq, hx]; simp
              have hws := fun W h1 h2 => Bld_WriteString w.heap.size w.heap.size l x W h1 (by omega) h2
              have G := Lib.hid (And.intro hm (And.intro hBX (And.intro hnx (And.intro hcall (And.intro hB1 hws)))))
              clear hm hBX hnx hcall hws hq1 hB1 hBx hbx hcB hq hqs hx hll
              go_wp2_with (fail)
              refine (G.out.2.2.2.1 _).mono ?_
              rintro e W2 ⟨rfl, g2⟩
              have hb2 := G.out.2.2.2.2.1.below g2
              have hBel2 := gr_call G.out.2.1 g2
              have G2 := Lib.hid (And.intro (G.out.2.2.2.2.2 _ hb2 hBel2.size) hBel2)
              clear hb2 hBel2 g2
              go_wp2_with (fail)
              refine G2.out.1.mono ?_
              rintro e W3 ⟨rfl, b3, x3, o3⟩
              have G3 := Lib.hid (And.intro b3 (G2.out.2.trans (x3.below (Nat.le_refl _) (Nat.le_refl _))))
              clear b3 x3 o3
              go_wp2_with (fail)
              go_roundg (r.w.length - (0 + 1))
              case measure => have := G.out.1; omega
              case rel => exact ⟨1, rfl, hjl, rfl, by have := G3.out.1; rw [← G.out.2.2.1] at this; exact this, G3.out.2⟩
          · have hpa := preT_all r hjl
            obtain ⟨l, hll⟩ : ∃ l, l = lineW (r.w.map (·.t)) := ⟨_, rfl⟩
            rw [hpa, ← hll] at hbx hl1
            have h4 := F.out.2.1.long F.out.2.2.2.2.1 F.out.2.2.2.2.2.1
            have h5 := F.out.2.1.line F.out.2.2.2.2.1 F.out.2.2.2.2.2.1
            rw [← hll] at h4 h5
            rw [List.length_append] at hl1
            have hln : (out ++ l).length = out.length + l.length := List.length_append
            have hlen := Bld_Len w.heap.size w.heap.size (out ++ l) wr hbx (Nat.le_refl _)
            have hwb := Bld_WriteByte w.heap.size w.heap.size (Lib.byteCells (out ++ l)) 10 wr hbx (by simp [Lib.byteCells]; omega) hWx
            rw [hln] at hlen
            by_cases hbig : 1000 < l.length ∨ 20000 < out.length + l.length + 1
            · have G := Lib.hid (And.intro (h4 hbig) (And.intro hBx hlen))
              clear h4 h5 hBx hbx hlen hwb hll hpa hm hln
              rcases (show (1000 : Int) < l.length ∨ (¬ (1000 : Int) < l.length ∧ (20000 : Int) < (out.length : Int) + l.length + 1) by omega) with h | ⟨h, h'⟩
              all_goals
                clear hbig
                go_wp2_with (go_at_call 71; refine G.out.2.2.mono ?_; rintro e w' ⟨rfl, rfl⟩)
                go_ret2
                exact ⟨by rw [G.out.1]; rfl, G.out.2.1⟩
            · have h6 : ¬ (1000 : Int) < l.length := by omega
              have h7 : ¬ (20000 : Int) < (out.length : Int) + l.length + 1 := by omega
              have G := Lib.hid (And.intro (h5 hbig) (And.intro hBx (And.intro hlen hwb)))
              clear h4 h5 hBx hbx hlen hwb hll hpa hm hln hbig
              go_wp2_with (go_at_call 71; refine G.out.2.2.1.mono ?_; rintro e w' ⟨rfl, rfl⟩)
              refine G.out.2.2.2.mono ?_
              rintro e W1 ⟨rfl, b1, x1, o1⟩
              have hb1 : Bld w.heap.size w.heap.size (Lib.byteCells (out ++ l ++ [10])) W1 := by rw [Lib.byteCells_append]; exact b1
              have G1 := Lib.hid (And.intro hb1 (G.out.2.1.trans (x1.below (Nat.le_refl _) (Nat.le_refl _))))
              clear hb1 b1 x1 o1
              go_wp2_with (fail)
              go_roundg (n - (k + 1))
              case measure => have := F.out.1; omega
              case rel => exact ⟨k + 1, out ++ l ++ [10], rfl, by omega, rfl, G.out.1, G1.out.1, G1.out.2⟩
    · have F := Lib.hid (And.intro (hat.over (by rw [← HA.out.2.2.2.1]; exact hlt)) (And.intro hbel hbld))
      clear hm hat hbel hbld
      go_wp2_with (fail)
      refine (Bld_String _ _ out _ F.out.2.2 (Nat.le_refl _) hWz).mono ?_
      rintro e W1 ⟨rfl, h1⟩
      have G := Lib.hid (F.out.2.1.trans h1)
      clear h1
      go_wp2_with (fail)
      go_ret2
      exact ⟨by rw [F.out.1]; rfl, G.out⟩
end Go.Proofs.YthpcbaamkeiffaaGreatDoor
namespace Go.Proofs.YthpcbaamkeiffaaGreatDoor
open Go.RowKit
set_option linter.unusedVariables false

section
variable {P : Program} {ops : Array Oper} {Q : Exit → Act → World → Prop}

/-- What is known in the midst of a region's head: as Known, but of all slots that the head does not write. -/
def KnownX (hd : List Oper) (w0 : World) (a0 : Act) (ops : Array Oper) (S : Nat → World → Value → Prop) (listed : Array Bool) (a : Act) (w : World) : Prop :=
  Below w0.heap.size w0 w ∧ a.defers = a0.defers ∧ a.tmps.size = a0.tmps.size ∧
  (∀ d, (hd.all fun o => o.dst != some d) = true → a.eval (.tmp d) = a0.eval (.tmp d)) ∧
  (∀ j o d, ops[j]? = some o → listed.getD j false = true → o.dst = some d → S d w (a.eval (.tmp d)))

theorem KnownX.put {hd : List Oper} {w0 : World} {a0 : Act} {S : Nat → World → Value → Prop} {listed : Array Bool} {a : Act} {w w' : World} {i : Nat} {o : Oper} {v : Value}
    (hap : Apart ops a0.tmps.size = true) (hS : ∀ d w w' v, Below w.heap.size w w' → S d w v → S d w' v)
    (h : KnownX hd w0 a0 ops S listed a w) (hi : ops[i]? = some o) (hm : o ∈ hd) (hB : Below w.heap.size w w') (hv : ∀ d, o.dst = some d → S d w' v) :
    KnownX hd w0 a0 ops S (listed.setIfInBounds i true) (a.put o.dst v) w' := by
  obtain ⟨h1, h2, h3, h4, h5⟩ := h
  have hold : ∀ j oj d, ops[j]? = some oj → (listed.setIfInBounds i true).getD j false = true → j ≠ i → oj.dst = some d → S d w' (a.eval (.tmp d)) := fun j oj d hj hl hne hd => by
    rw [getD_set_ne false (Ne.symm hne)] at hl
    exact hS _ _ _ _ hB (h5 j oj d hj hl hd)
  refine ⟨h1.trans (hB.mono h1.size), by cases o.dst <;> exact h2, ?_, fun d hx => ?_, fun j oj d hj hl hd => ?_⟩
  · cases o.dst with
    | none => exact h3
    | some d => simpa [Act.put] using h3
  · cases hod : o.dst with
    | none => exact h4 d hx
    | some e =>
      have hne : e ≠ d := by
        intro hed
        have := List.all_eq_true.1 hx o hm
        simp [hod, hed] at this
      rw [eval_put_other _ _ _ _ hne]
      exact h4 d hx
  · by_cases hji : j = i
    · subst hji
      obtain rfl : oj = o := Option.some.inj (hj.symm.trans hi)
      have hlt := (apart_at hap hi hi hd hd).2
      rw [hd, eval_put_same _ _ _ (by rw [h3]; exact hlt)]
      exact hv d hd
    · cases hod : o.dst with
      | none => exact hold j oj d hj hl hji hd
      | some e =>
        have hne : e ≠ d := fun hed => hji (apart_at hap hj hi hd (by rw [hod, hed])).1
        rw [eval_put_other _ _ _ _ hne]
        exact hold j oj d hj hl hji hd

theorem knownX_start {hd : List Oper} {w0 : World} {a0 : Act} {S : Nat → World → Value → Prop} {w : World} (hB : Below w0.heap.size w0 w) : KnownX hd w0 a0 ops S (Array.replicate ops.size false) a0 w :=
  ⟨hB, rfl, rfl, fun _ _ => rfl, fun j o d hj hl _ => by
    rw [Array.getD_eq_getD_getElem?] at hl
    by_cases hlt : j < ops.size <;> simp [hlt] at hl⟩

/-- What is to be shown of one operation of the head. -/
def StepOkX (hd : List Oper) (P : Program) (ops : Array Oper) (Q : Exit → Act → World → Prop) (w0 : World) (a0 : Act) (S : Nat → World → Value → Prop) (Dist : List Nat) (o : Oper) : Prop :=
  ∀ (a : Act) (w : World), Below w0.heap.size w0 w → a.tmps.size = a0.tmps.size →
    (∀ d, (hd.all fun o => o.dst != some d) = true → a.eval (.tmp d) = a0.eval (.tmp d)) →
    (∀ d ∈ depSlots ops o, S d w (a.eval (.tmp d))) →
    ∀ K : Act → World → Prop, (∀ v w', Below w.heap.size w w' → (∀ d, o.dst = some d → S d w' v) → (∀ d, o.dst = some d → d ∈ Dist → ∃ g, v = .pointer (some ⟨g, 0, none⟩) ∧ w.heap.size ≤ g) → K (a.put o.dst v) w') →
      if Region.wanted o (yielded ops a.tmps) then o.wp P a w K Q ∨ (o.asks P a w ∧ LetsOut Q) else K (a.put o.dst undef) w

def StepsOkX (hd : List Oper) (P : Program) (ops : Array Oper) (Q : Exit → Act → World → Prop) (w0 : World) (a0 : Act) (S : Nat → World → Value → Prop) (Dist : List Nat) : List Oper → Prop
  | [] => True
  | o :: rest => StepOkX hd P ops Q w0 a0 S Dist o ∧ StepsOkX hd P ops Q w0 a0 S Dist rest

theorem StepsOkX.at {hd : List Oper} {w0 : World} {a0 : Act} {S : Nat → World → Value → Prop} {Dist : List Nat} : ∀ {l : List Oper}, StepsOkX hd P ops Q w0 a0 S Dist l → ∀ o ∈ l, StepOkX hd P ops Q w0 a0 S Dist o := by
  intro l
  induction l with
  | nil => intro _ o ho; cases ho
  | cons x l ih =>
    intro h o ho
    rcases List.mem_cons.1 ho with rfl | ho
    · exact h.1
    · exact ih h.2 o ho

theorem wp_region_lateX {id : Nat} {l : List Oper} {a0 : Act} {w0 : World} (k : Nat) (Dist : List Nat) (S : Nat → World → Value → Prop) (hm : P.follows .mixedOrders = true)
    (hap : Apart l.toArray a0.tmps.size = true) (hf : Forward l.toArray = true) (hlate : Late l.toArray k = true) (hk : k ≤ l.length)
    (hS : ∀ d w w' v, Below w.heap.size w w' → S d w v → S d w' v)
    (hDist : ∀ d ∈ Dist, ∀ w v, S d w v → ∃ g, v = .pointer (some ⟨g, 0, none⟩) ∧ g < w.heap.size)
    (hsteps : StepsOkX (l.take k) P l.toArray Q w0 a0 S Dist (l.take k))
    (hend : ∀ (a : Act) (w : World), Below w0.heap.size w0 w → a.tmps.size = a0.tmps.size → a.defers = a0.defers →
      (∀ d, ((l.take k).all fun o => o.dst != some d) = true → a.eval (.tmp d) = a0.eval (.tmp d)) →
      (∀ o ∈ l.take k, ∀ d, o.dst = some d → S d w (a.eval (.tmp d))) →
      (∀ d ∈ Dist, ∀ e ∈ Dist, d ≠ e → (l.take k).any (fun o => o.dst == some d) = true → (l.take k).any (fun o => o.dst == some e) = true → ∀ g h, a.eval (.tmp d) = .pointer (some ⟨g, 0, none⟩) → a.eval (.tmp e) = .pointer (some ⟨h, 0, none⟩) → g ≠ h) →
      wpList P l.toArray Q (l.drop k) a w) : (Code.region id l.toArray true).wp P Q a0 w0 := by
  refine wp_region_any hm ?_
  refine wpAny_inv (ops := l.toArray) (fun listed a w => listed.size = l.toArray.size ∧ Closed l.toArray (fun j => listed.getD j false) ∧
    (((∀ j, k ≤ j → listed.getD j false = false) ∧ KnownX (l.take k) w0 a0 l.toArray S listed a w ∧ Apart2 Dist a (doneSlots l.toArray listed)) ∨
      ∃ m, k < m ∧ m ≤ l.length ∧ (∀ j, listed.getD j false = decide (j < m)) ∧ wpList P l.toArray Q (l.drop m) a w)) ?_ ?_ _ _ _ _ ?_ ?_
  · rintro listed a w i ⟨hsz, hcl, hR⟩ hi
    obtain ⟨h0, o, ho, hall⟩ := mem_ready.1 hi
    have ho' : l[i]? = some o := by simpa using ho
    have hil : i < l.length := (List.getElem?_eq_some_iff.1 ho').1
    have hib : i < listed.size := by rw [hsz]; simpa using hil
    have h0' : listed.getD i false = false := by simp [hib] at h0 ⊢; exact h0
    have hdeps : ∀ j ∈ deps l.toArray i, (fun j => listed.getD j false) j = true := by
      intro j hj
      unfold deps at hj
      rw [ho] at hj
      simp only [Option.map_some, Option.getD_some] at hj
      obtain ⟨e, he, hej⟩ := List.mem_filterMap.1 hj
      split at hej
      · rename_i hb
        cases hej
        exact hall e (by simpa using he) hb
      · cases hej
    have hcl' : Closed l.toArray (fun j => (listed.setIfInBounds i true).getD j false) := by
      rw [lst_set hib]
      intro x hx j hj
      simp only [Bool.or_eq_true, beq_iff_eq] at hx ⊢
      rcases hx with rfl | hx
      · exact Or.inr (hdeps j hj)
      · exact Or.inr (hcl x hx j hj)
    have hs2 : (listed.setIfInBounds i true).size = l.toArray.size := by simpa using hsz
    have hls := lst_set hib
    unfold wpOp
    rw [ho]
    simp only
    rcases hR with ⟨hnone, hK, hA⟩ | ⟨m, hkm, hml, hlm, hT⟩
    · rcases Nat.lt_or_ge i k with hik | hik
      · have hmem : o ∈ l.take k := List.mem_of_getElem? (i := i) (by rw [List.getElem?_take, if_pos hik]; exact ho')
        have hK' := hK
        obtain ⟨h1, h2, h3, h4, h5⟩ := hK'
        refine hsteps.at o hmem a w h1 h3 h4 (fun d hd => ?_) _ (fun v w' hB hv hfr => ⟨hs2, hcl', Or.inl ⟨fun j hj => ?_, hK.put hap hS ho hmem hB hv, ?_⟩⟩)
        · unfold depSlots at hd
          obtain ⟨e, he, hed⟩ := List.mem_filterMap.1 hd
          split at hed
          · rename_i hb
            cases hoj : l.toArray[e.on]? with
            | none => rw [hoj] at hed; cases hed
            | some oj =>
              rw [hoj] at hed
              exact h5 e.on oj d hoj (hall e (by simpa using he) hb) hed
          · cases hed
        · have := congrFun hls j
          rw [this, hnone j hj, Bool.or_false]
          have : j ≠ i := by omega
          simpa using this
        · -- distinct
          intro d hd e he hde hdd hee g h hg hh
          obtain ⟨jd, od, hjd, hld, hdd'⟩ := doneSlots_at hdd
          obtain ⟨je, oe, hje, hle, hee'⟩ := doneSlots_at hee
          have fjd := congrFun hls jd
          have fje := congrFun hls je
          rw [fjd] at hld
          rw [fje] at hle
          have old : ∀ jx ox dx, l.toArray[jx]? = some ox → jx ≠ i → ox.dst = some dx → (a.put o.dst v).eval (.tmp dx) = a.eval (.tmp dx) := by
            intro jx ox dx h1x h2x h3x
            cases hod : o.dst with
            | none => rfl
            | some y => exact eval_put_other _ _ _ _ (fun hy => h2x (apart_at hap h1x ho h3x (by rw [hod, hy])).1)
          have new : ∀ dx, o.dst = some dx → (a.put o.dst v).eval (.tmp dx) = v := by
            intro dx hx
            rw [hx, eval_put_same _ _ _ (by rw [h3]; exact (apart_at hap ho ho hx hx).2)]
          by_cases ed : jd = i
          · by_cases ee : je = i
            · subst ed; subst ee
              rw [hjd] at hje
              cases hje
              rw [hdd'] at hee'
              exact absurd (Option.some.inj hee') hde
            · subst ed
              rw [ho] at hjd
              cases hjd
              rw [new d hdd'] at hg
              rw [old je oe e hje ee hee'] at hh
              have hlx : listed.getD je false = true := by
                have : (je == jd) = false := by simpa using ee
                rw [this, Bool.false_or] at hle; exact hle
              obtain ⟨g', hv', hge⟩ := hfr d hdd' hd
              rw [hv'] at hg
              cases hg
              obtain ⟨h', hv2, hlt2⟩ := hDist e he _ _ (h5 je oe e hje hlx hee')
              rw [hh] at hv2
              cases hv2
              omega
          · by_cases ee : je = i
            · subst ee
              rw [ho] at hje
              cases hje
              rw [new e hee'] at hh
              rw [old jd od d hjd ed hdd'] at hg
              have hlx : listed.getD jd false = true := by
                have : (jd == je) = false := by simpa using ed
                rw [this, Bool.false_or] at hld; exact hld
              obtain ⟨g', hv', hge⟩ := hfr e hee' he
              rw [hv'] at hh
              cases hh
              obtain ⟨h', hv2, hlt2⟩ := hDist d hd _ _ (h5 jd od d hjd hlx hdd')
              rw [hg] at hv2
              cases hv2
              omega
            · rw [old jd od d hjd ed hdd'] at hg
              rw [old je oe e hje ee hee'] at hh
              have hlx : listed.getD jd false = true := by
                have : (jd == i) = false := by simpa using ed
                rw [this, Bool.false_or] at hld; exact hld
              have hly : listed.getD je false = true := by
                have : (je == i) = false := by simpa using ee
                rw [this, Bool.false_or] at hle; exact hle
              refine hA d hd e he hde ?_ ?_ g h hg hh
              · refine List.any_eq_true.2 ⟨jd, List.mem_range.2 (Array.getElem?_eq_some_iff.1 hjd).1, ?_⟩
                simp [hlx, hjd, hdd']
              · refine List.any_eq_true.2 ⟨je, List.mem_range.2 (Array.getElem?_eq_some_iff.1 hje).1, ?_⟩
                simp [hly, hje, hee']
      · -- the tail begins
        have hbefore := late_done hlate hcl (by simpa using hil) hik hdeps
        have hik' : i = k := by
          rcases Nat.lt_or_ge k i with h | h
          · have := hbefore k h
            rw [hnone k (Nat.le_refl _)] at this
            cases this
          · omega
        subst hik'
        obtain ⟨h1, h2, h3, h4, h5⟩ := hK
        have hall' : ∀ j, j < i → listed.getD j false = true := hbefore
        have hT := hend a w h1 h3 h2 h4 (fun ox hox d hd => by
          obtain ⟨j, hj⟩ := List.mem_iff_getElem?.1 hox
          rw [List.getElem?_take] at hj
          split at hj
          · rename_i hji
            exact h5 j ox d (by simpa using hj) (hall' j hji) hd
          · cases hj) (fun d hd e he hde hdd hee => hA d hd e he hde (by
            obtain ⟨ox, hox, hxd⟩ := List.any_eq_true.1 hdd
            obtain ⟨j, hj⟩ := List.mem_iff_getElem?.1 hox
            rw [List.getElem?_take] at hj
            split at hj
            · rename_i hji
              refine List.any_eq_true.2 ⟨j, List.mem_range.2 (by simp; omega), ?_⟩
              have hj2 : l.toArray[j]? = some ox := by simpa using hj
              rw [hall' j hji, hj2, Option.bind_some, Bool.true_and]; exact hxd
            · cases hj) (by
            obtain ⟨ox, hox, hxd⟩ := List.any_eq_true.1 hee
            obtain ⟨j, hj⟩ := List.mem_iff_getElem?.1 hox
            rw [List.getElem?_take] at hj
            split at hj
            · rename_i hji
              refine List.any_eq_true.2 ⟨j, List.mem_range.2 (by simp; omega), ?_⟩
              have hj2 : l.toArray[j]? = some ox := by simpa using hj
              rw [hall' j hji, hj2, Option.bind_some, Bool.true_and]; exact hxd
            · cases hj))
        have hdrop : l.drop i = o :: l.drop (i + 1) := by
          rw [List.drop_eq_getElem_cons hil]
          congr 1
          exact (List.getElem?_eq_some_iff.1 ho').2
        rw [hdrop] at hT
        have hnext : ∀ a w, wpList P l.toArray Q (l.drop (i + 1)) a w → (listed.setIfInBounds i true).size = l.toArray.size ∧ Closed l.toArray (fun j => (listed.setIfInBounds i true).getD j false) ∧
    (((∀ j, i ≤ j → (listed.setIfInBounds i true).getD j false = false) ∧ KnownX (l.take i) w0 a0 l.toArray S (listed.setIfInBounds i true) a w ∧ Apart2 Dist a (doneSlots l.toArray (listed.setIfInBounds i true))) ∨
      ∃ m, i < m ∧ m ≤ l.length ∧ (∀ j, (listed.setIfInBounds i true).getD j false = decide (j < m)) ∧ wpList P l.toArray Q (l.drop m) a w) := by
          intro a w h
          refine ⟨hs2, hcl', Or.inr ⟨i + 1, by omega, by omega, fun j => ?_, h⟩⟩
          have := congrFun hls j
          rw [this]
          rcases Nat.lt_trichotomy j i with hj | hj | hj
          · rw [hall' j hj, Bool.or_true]; simp; omega
          · subst hj; simp
          · rw [hnone j (by omega), Bool.or_false]
            have e1 : ¬ j = i := by omega
            have e2 : ¬ j < i + 1 := by omega
            simp [e1, e2]
        unfold wpList at hT
        split at hT
        · rename_i hw
          rw [if_pos hw]
          exact hT.imp (Oper.wp_mono hnext) (fun h => h)
        · rename_i hw
          rw [if_neg hw]
          exact hnext _ _ hT
    · -- in the tail
      have hbefore := late_done hlate hcl (by simpa using hil) (by
        have := hlm i
        rw [h0'] at this
        have : ¬ i < m := by simpa using this.symm
        omega) hdeps
      have him : i = m := by
        have h1 := hlm i
        rw [h0'] at h1
        have h2 : ¬ i < m := by simpa using h1.symm
        rcases Nat.lt_or_ge m i with h | h
        · have h3 := hbefore m h
          rw [hlm m] at h3
          simp at h3
        · omega
      subst him
      have hdrop : l.drop i = o :: l.drop (i + 1) := by
        rw [List.drop_eq_getElem_cons hil]
        congr 1
        exact (List.getElem?_eq_some_iff.1 ho').2
      rw [hdrop] at hT
      have hnext : ∀ a w, wpList P l.toArray Q (l.drop (i + 1)) a w → (listed.setIfInBounds i true).size = l.toArray.size ∧ Closed l.toArray (fun j => (listed.setIfInBounds i true).getD j false) ∧
    (((∀ j, k ≤ j → (listed.setIfInBounds i true).getD j false = false) ∧ KnownX (l.take k) w0 a0 l.toArray S (listed.setIfInBounds i true) a w ∧ Apart2 Dist a (doneSlots l.toArray (listed.setIfInBounds i true))) ∨
      ∃ m, k < m ∧ m ≤ l.length ∧ (∀ j, (listed.setIfInBounds i true).getD j false = decide (j < m)) ∧ wpList P l.toArray Q (l.drop m) a w) := by
        intro a w h
        refine ⟨hs2, hcl', Or.inr ⟨i + 1, by omega, by omega, fun j => ?_, h⟩⟩
        have := congrFun hls j
        rw [this, hlm j]
        rcases Nat.lt_trichotomy j i with hj | hj | hj
        · have : j < i + 1 := by omega
          simp [hj, this]
        · subst hj; simp
        · have e1 : ¬ j = i := by omega
          have e2 : ¬ j < i + 1 := by omega
          have e3 : ¬ j < i := by omega
          simp [e1, e2, e3]
      unfold wpList at hT
      split at hT
      · rename_i hw
        rw [if_pos hw]
        exact hT.imp (Oper.wp_mono hnext) (fun h => h)
      · rename_i hw
        rw [if_neg hw]
        exact hnext _ _ hT
  · rintro listed a w ⟨hsz, hcl, hR⟩ hr
    have hal := all_listed hf hsz hr
    rcases hR with ⟨hnone, hK, hA⟩ | ⟨m, hkm, hml, hlm, hT⟩
    · obtain ⟨h1, h2, h3, h4, h5⟩ := hK
      have hkl : k = l.length := by
        rcases Nat.lt_or_ge k l.length with h | h
        · have h6 := hal k (by simpa using h)
          rw [hnone k (Nat.le_refl _)] at h6
          cases h6
        · omega
      have hT := hend a w h1 h3 h2 h4 (fun ox hox d hd => by
          obtain ⟨j, hj⟩ := List.mem_iff_getElem?.1 (List.mem_of_mem_take hox)
          have hj' : l.toArray[j]? = some ox := by simpa using hj
          exact h5 j ox d hj' (hal j (Array.getElem?_eq_some_iff.1 hj').1) hd) (fun d hd e he hde hdd hee => hA d hd e he hde (by
            obtain ⟨ox, hox, hxd⟩ := List.any_eq_true.1 hdd
            obtain ⟨j, hj⟩ := List.mem_iff_getElem?.1 (List.mem_of_mem_take hox)
            have hj' : l.toArray[j]? = some ox := by simpa using hj
            refine List.any_eq_true.2 ⟨j, List.mem_range.2 (Array.getElem?_eq_some_iff.1 hj').1, ?_⟩
            rw [hal j (Array.getElem?_eq_some_iff.1 hj').1, hj', Option.bind_some, Bool.true_and]; exact hxd) (by
            obtain ⟨ox, hox, hxd⟩ := List.any_eq_true.1 hee
            obtain ⟨j, hj⟩ := List.mem_iff_getElem?.1 (List.mem_of_mem_take hox)
            have hj' : l.toArray[j]? = some ox := by simpa using hj
            refine List.any_eq_true.2 ⟨j, List.mem_range.2 (Array.getElem?_eq_some_iff.1 hj').1, ?_⟩
            rw [hal j (Array.getElem?_eq_some_iff.1 hj').1, hj', Option.bind_some, Bool.true_and]; exact hxd))
      rw [hkl, List.drop_length] at hT
      exact hT
    · have hml2 : m = l.length := by
        rcases Nat.lt_or_ge m l.length with h | h
        · have h6 := hal m (by simpa using h)
          rw [hlm m] at h6
          simp at h6
        · omega
      rw [hml2, List.drop_length] at hT
      exact hT
  · unfold unlisted
    exact Nat.le_trans List.countP_le_length (by simp)
  · have hfalse : ∀ j, (Array.replicate l.toArray.size false).getD j false = false := by
      intro j
      rw [Array.getD_eq_getD_getElem?]
      by_cases hlt : j < l.toArray.size <;> simp at hlt <;> simp [hlt]
    refine ⟨by simp, fun i hi => ?_, Or.inl ⟨fun j _ => hfalse j, knownX_start (gr_drew (Below.refl _ _)), ?_⟩⟩
    · simp only [hfalse] at hi; cases hi
    · intro d _ e _ _ hdd
      obtain ⟨j, o, _, h, _⟩ := doneSlots_at hdd
      rw [hfalse] at h
      cases h
/-- Behind a region's head the slots are the old ones but for those that the head writes. -/
theorem act_overX {a a0 : Act} {ops : List Oper} (l : List (Nat × Value)) (hs : a.tmps.size = a0.tmps.size) (hd : a.defers = a0.defers)
    (hbase : ∀ d, (ops.all fun o => o.dst != some d) = true → a.eval (.tmp d) = a0.eval (.tmp d))
    (hcov : (ops.all fun o => match o.dst with | some d => (l.map Prod.fst).contains d | none => true) = true) (hv : AllAt a l) : a = putAll l a0 :=
  act_over (ops := ops.toArray) l hs hd (fun d h => hbase d (by simpa using h)) (by rw [List.all_toArray]; exact hcov) hv
end
end Go.Proofs.YthpcbaamkeiffaaGreatDoor
