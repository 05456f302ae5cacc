/-
  row.Rows, walked: the rows of a text, or a fault; condition: texts of at most 1000000000 bytes; the variable ErrSyntax holds an interface value.
-/
import Derived.Sort.BigQuietIn
import Derived.Test.YthpcbaamkeiffaaGreatDoorMRwG
import Derived.Test.YthpcbaamkeiffaaGreatDoorMRwH
namespace Go.Proofs.YthpcbaamkeiffaaGreatDoor
open Go.RowKit Go.Shelf
set_option linter.unusedVariables false
set_option linter.unusedSimpArgs false
attribute [local go_sem] Oper.semAt_some

/-! Lists of rows that a call has laid. -/
theorem own_blks {W W' : World} {B size n : Nat} {e : TypeId} {v : Value} {xs : List Value} (h : W.ownsRow B e size v n xs) (hk : ∀ k cs, Blk W k e cs → Blk W' k e cs) : W'.ownsRow B e size v n xs := by
  refine ⟨h.1, ?_⟩
  rcases h.2 with h2 | ⟨g, cap, cur, hv, hg, hh, r⟩
  · exact .inl h2
  · exact .inr ⟨g, cap, cur, hv, hg, hk g cur hh, r⟩
def rowsC : List Rw → List Value → List Value
  | r :: rs, v :: vs => .int .i64 (r.a : Int) :: v :: rowsC rs vs
  | _, _ => []
def InnerOk (W : World) (B : Nat) : List Rw → List Value → Prop
  | [], [] => True
  | r :: rs, v :: vs => W.ownsRow B 116 3 v r.w.length (wdsC r.w) ∧ InnerOk W B rs vs
  | _, _ => False
theorem InnerOk.keep {W W' : World} {B : Nat} (hk : ∀ k cs, Blk W k 116 cs → Blk W' k 116 cs) : ∀ {rs : List Rw} {vs : List Value}, InnerOk W B rs vs → InnerOk W' B rs vs
  | [], [], _ => trivial
  | r :: rs, v :: vs, h => ⟨own_blks h.1 hk, InnerOk.keep hk h.2⟩
theorem InnerOk.len {W : World} {B : Nat} : ∀ {rs : List Rw} {vs : List Value}, InnerOk W B rs vs → vs.length = rs.length
  | [], [], _ => rfl
  | r :: rs, v :: vs, h => by simp [InnerOk.len h.2]
theorem InnerOk.snoc {W : World} {B : Nat} {r : Rw} {v : Value} (hr : W.ownsRow B 116 3 v r.w.length (wdsC r.w)) : ∀ {rs : List Rw} {vs : List Value}, InnerOk W B rs vs → InnerOk W B (rs ++ [r]) (vs ++ [v])
  | [], [], _ => ⟨hr, trivial⟩
  | _ :: rs, _ :: vs, h => ⟨h.1, InnerOk.snoc hr h.2⟩
theorem rowsC_snoc (r : Rw) (v : Value) : ∀ {rs : List Rw} {vs : List Value}, vs.length = rs.length → rowsC (rs ++ [r]) (vs ++ [v]) = rowsC rs vs ++ [.int .i64 (r.a : Int), v]
  | [], [], _ => rfl
  | a :: rs, b :: vs, h => by
    show _ :: _ :: rowsC (rs ++ [r]) (vs ++ [v]) = _
    rw [rowsC_snoc r v (by simpa using h)]
    rfl
def OwnRs (W : World) (B : Nat) (v : Value) (rs : List Rw) : Prop := ∃ vs, W.ownsRow B 77 2 v rs.length (rowsC rs vs) ∧ InnerOk W B rs vs
theorem OwnRs.keep {W W' : World} {B : Nat} {v : Value} {rs : List Rw} (h : OwnRs W B v rs) (hk : ∀ k t cs, Blk W k t cs → t = 77 ∨ t = 116 → Blk W' k t cs) : OwnRs W' B v rs := by
  obtain ⟨vs, h1, h2⟩ := h
  exact ⟨vs, own_blks h1 (fun k cs hb => hk k _ cs hb (.inl rfl)), h2.keep (fun k cs hb => hk k _ cs hb (.inr rfl))⟩
theorem OwnRs.below {W W' : World} {B : Nat} {v : Value} {rs : List Rw} (h : OwnRs W B v rs) (hb : Below W.heap.size W W') : OwnRs W' B v rs := h.keep (fun _ _ _ hk _ => hk.call hb)
theorem OwnRs.set_ {W : World} {B : Nat} {v : Value} {rs : List Rw} (h : OwnRs W B v rs) {b : Nat} {t : TypeId} {cs : Array Value} (hb : Blk W b t cs) (h1 : t ≠ 77) (h2 : t ≠ 116) (i : Nat) (u : Value) : OwnRs (W.setCell ⟨b, i, none⟩ u) B v rs :=
  h.keep (fun k t' cs' hk ht => hk.far (by
    show k ≠ b
    refine hk.ne_ hb ?_
    rintro rfl
    rcases ht with h | h
    · exact h1 h
    · exact h2 h) _)
theorem OwnRs.slice {W : World} {B : Nat} {v : Value} {rs : List Rw} (h : OwnRs W B v rs) : ∃ a c, v = .slice a rs.length c := own_slice h.choose_spec.1
theorem infoRow : (Tryz.prog.info? 77).map (fun i => (i.zero, i.size, i.bytes)) = some (some (.agg #[.int .i64 0, .slice none 0 0]), 2, 32) := by kernel_rfl
theorem keeps_below {W W' : World} (h : Below W.heap.size W W') : KeepsOthers W W' :=
  ⟨h.size, fun k o hk hc => (h.block k (Array.getElem?_eq_some_iff.1 hk).1).trans hk⟩

/-- One row more. -/
theorem OwnRs.append {W : World} {B : Nat} {v vw : Value} {rs : List Rw} (h : OwnRs W B v rs) (hB : B ≤ W.heap.size) (r : Rw) (hw : W.ownsRow B 116 3 vw r.w.length (wdsC r.w)) (hn : rs.length ≤ 1000000000) (h1 : vw.oneCell' = true) : ∃ v' X2,
    (Builtin.append_ #[79, 79] 79 #[v, .slice (some ⟨W.heap.size, 0, none⟩) 1 1]).run Tryz.prog (W.alloc (.cells #[.int .i64 (r.a : Int), vw] 77)).drew = .ok v' X2 ∧
    OwnRs X2 B v' (rs ++ [r]) ∧ Below B W X2 ∧ KeepsOthers W X2 ∧ (∀ k t cs, Blk W k t cs → t ≠ 77 → Blk X2 k t cs) := by
  obtain ⟨i1, hi1, hz10, hz11, hz12⟩ := info_parts infoRow
  obtain ⟨vs, ho, hin⟩ := h
  have hb : Below W.heap.size W (W.alloc (.cells #[.int .i64 (r.a : Int), vw] 77)).drew := (gr_alloc (Below.refl _ _) _).drew
  have h2 := own_below ho hb (Nat.le_refl _)
  have hn1 : ∀ j u, [Value.int .i64 (r.a : Int), vw][j]? = some u → (W.alloc (.cells #[.int .i64 (r.a : Int), vw] 77)).drew.cell? ((⟨W.heap.size, 0, none⟩ : Addr).add j) = some u := by
    intro j u hj
    have hB : Blk (W.alloc (.cells #[.int .i64 (r.a : Int), vw] 77)).drew W.heap.size 77 #[.int .i64 (r.a : Int), vw] := Blk.new _ _ _
    rw [show ((⟨W.heap.size, 0, none⟩ : Addr).add j) = ⟨W.heap.size, j, none⟩ by rw [Addr.add_lit, Nat.zero_add]]
    exact hB.cell' (by simpa using hj)
  have hn2 : ∀ u ∈ [Value.int .i64 (r.a : Int), vw], u.oneCell' = true := by
    intro u hu
    simp at hu
    rcases hu with rfl | rfl
    · rfl
    · exact h1
  obtain ⟨v', X2, hr, hown, hgr, _⟩ := run_append_own (P := Tryz.prog) _ B 79 79 77 i1 _ 2 32 Tryz.underlying79 hi1 hz10 hz11 hz12 rfl (by decide) v rs.length (rowsC rs vs) h2
    ⟨W.heap.size, 0, none⟩ 1 1 [.int .i64 (r.a : Int), vw] rfl hn1 hn2 (by unfold maxLen; omega) (by omega) (by simpa using Nat.le_trans hB (Nat.le_succ _))
  have hkeep : ∀ k t cs, Blk W k t cs → t ≠ 77 → Blk X2 k t cs := fun k t cs hk ht => by
    have hk1 := hk.call hb
    exact hk1.grown hgr (own_blk_ne h2 hk1 (fun e => ht e.symm))
  refine ⟨v', X2, hr, ⟨vs ++ [vw], ?_, ?_⟩, (hb.mono hB).grown hgr (Nat.le_trans hB hb.size) (fun k hk => (h2.lt k hk).1), (keeps_below hb).trans (KeepsOthers.of_grownBy hgr (fun j o hj ho => by
    rcases h2.2 with ⟨e, _⟩ | ⟨g, cap, cur, e, _, hg, _⟩
    · rw [e] at hj; cases hj
    · rw [e] at hj; cases hj
      rw [hg] at ho; cases ho; rfl)), hkeep⟩
  · rw [rowsC_snoc r vw hin.len, List.length_append]
    exact hown
  · have hkw : ∀ k cs, Blk W k 116 cs → Blk X2 k 116 cs := fun k cs hk => hkeep k _ cs hk (by decide)
    exact InnerOk.snoc (own_blks hw hkw) (hin.keep hkw)

theorem KpL.refl (W : World) : KpL W W := fun _ _ _ h _ => h
theorem KpL.trans {A B C : World} (h : KpL A B) (k : KpL B C) : KpL A C := fun i t cs hb ht => k i t cs (h i t cs hb ht) ht
theorem KpL.below {A B : World} (h : Below A.heap.size A B) : KpL A B := fun _ _ _ hb _ => hb.call h
theorem KpL.set_ {A W : World} (h : KpL A W) {b : Nat} {t : TypeId} {cs : Array Value} (hb : Blk W b t cs) (h1 : t ≠ 9) (h2 : t ≠ 3) (h3 : t ≠ 169) (i : Nat) (u : Value) : KpL A (W.setCell ⟨b, i, none⟩ u) :=
  fun k t' cs' hk ht => (h k t' cs' hk ht).far (by
    show k ≠ b
    refine (h k t' cs' hk ht).ne_ hb ?_
    rintro rfl
    rcases ht with h | h | h
    · exact h1 h
    · exact h2 h
    · exact h3 h) _
/-- What is known when a fault has ended the loop. -/
def RX (w : World) (l : List UInt8) (ys : List (Nat × List UInt8)) (W : World) : Prop :=
  ∃ E1 E2 : Int, Blk W w.heap.size 79 #[.slice none 0 0] ∧ Blk W (w.heap.size + 1) 33 #[.int .i64 E1, .int .i64 E2] ∧ Below w.heap.size w W ∧ rowsF 0 (splitL 10 l) = (none, E1, E2)
/-- The two results are written. -/
theorem store_fault {w Y : World} {l : List UInt8} {ys : List (Nat × List UInt8)} {v : Value} {a b E1 E2 : Int} (h3 : Blk Y w.heap.size 79 #[v]) (h4 : Blk Y (w.heap.size + 1) 33 #[.int .i64 a, .int .i64 b]) (h5 : Below w.heap.size w Y) (h6 : rowsF 0 (splitL 10 l) = (none, E1, E2)) :
    KeepsOthers Y (((Y.setCell ⟨w.heap.size, 0, none⟩ (.slice none 0 0)).setCell ⟨w.heap.size + 1, 0, none⟩ (.int .i64 E1)).setCell ⟨w.heap.size + 1, 1, none⟩ (.int .i64 E2)) ∧
    RX w l ys (((Y.setCell ⟨w.heap.size, 0, none⟩ (.slice none 0 0)).setCell ⟨w.heap.size + 1, 0, none⟩ (.int .i64 E1)).setCell ⟨w.heap.size + 1, 1, none⟩ (.int .i64 E2)) ∧
    KpL Y (((Y.setCell ⟨w.heap.size, 0, none⟩ (.slice none 0 0)).setCell ⟨w.heap.size + 1, 0, none⟩ (.int .i64 E1)).setCell ⟨w.heap.size + 1, 1, none⟩ (.int .i64 E2)) := by
  have n1 : w.heap.size ≠ w.heap.size + 1 := by omega
  have g3 := h3.set_ 0 (.slice none 0 0)
  have g4 := h4.far (p := ⟨w.heap.size, 0, none⟩) (by show w.heap.size + 1 ≠ w.heap.size; omega) (.slice none 0 0)
  have i4 := g4.set_ 0 (.int .i64 E1)
  refine ⟨((KeepsOthers.setCell _ _ _).trans (KeepsOthers.setCell _ _ _)).trans (KeepsOthers.setCell _ _ _), ⟨E1, E2, (g3.far n1 _).far n1 _, i4.set_ 1 _, ?_, h6⟩, ?_⟩
  · exact gr_set (gr_set (gr_set h5 (Nat.le_refl _) _) (by show w.heap.size ≤ w.heap.size + 1; omega) _) (by show w.heap.size ≤ w.heap.size + 1; omega) _
  · exact (((KpL.refl Y).set_ h3 (by decide) (by decide) (by decide) _ _).set_ g4 (by decide) (by decide) (by decide) _ _).set_ i4 (by decide) (by decide) (by decide) _ _

/-- What is known between two lines. -/
def RK (w : World) (ys : List (Nat × List UInt8)) (W : World) : Prop :=
  ∃ v rows, Blk W (w.heap.size + 2) 79 #[v] ∧ OwnRs W w.heap.size v rows ∧ Blk W w.heap.size 79 #[.slice none 0 0] ∧ Blk W (w.heap.size + 1) 33 #[.int .i64 0, .int .i64 0] ∧ Below w.heap.size w W ∧
    (∀ rest, rowsF 0 (ys.map (·.2) ++ rest) = preR rows (rowsF (offs 0 (ys.map (·.2))) rest)) ∧ rows.length ≤ ys.length
theorem RK_stays (w : World) : Stays (w.heap.size + 3) (RK w) where
  set_ := by
    rintro ys W b t v u ⟨x, rows, h1, h2, h3, h4, h5, h6⟩ hb ht hle
    refine ⟨x, rows, h1.far (by show w.heap.size + 2 ≠ b; omega) _, h2.set_ hb ?_ ?_ _ _, h3.far (by show w.heap.size ≠ b; omega) _, h4.far (by show w.heap.size + 1 ≠ b; omega) _, gr_set h5 (by show w.heap.size ≤ b; omega) _, h6⟩
    · rcases ht with rfl | rfl <;> decide
    · rcases ht with rfl | rfl <;> decide
  alloc := by
    rintro ys W o ⟨x, rows, h1, h2, h3, h4, h5, h6⟩
    exact ⟨x, rows, h1.alloc _, h2.below (gr_alloc (Below.refl _ _) _), h3.alloc _, h4.alloc _, gr_alloc h5 _, h6⟩
  put := by
    rintro ys W k o o' ⟨x, rows, h1, h2, h3, h4, h5, h6⟩ hk ho hc
    refine ⟨x, rows, (World.putObj_heap_other (by omega)).trans h1, h2.keep (fun i t cs hi _ => (World.putObj_heap_other (by rintro rfl; unfold Blk at hi; rw [hi] at ho; cases ho; cases hc)).trans hi), (World.putObj_heap_other (by omega)).trans h3, (World.putObj_heap_other (by omega)).trans h4,
      h5.grown (grownBy_putObj' W k o') h5.size (fun q e => by cases e; omega), h6⟩
  drewN := by
    rintro ys W n ⟨x, rows, h1, h2, h3, h4, h5, h6⟩
    exact ⟨x, rows, h1, h2.keep (fun _ _ _ h _ => h), h3, h4, below_drewN h5 n, h6⟩
theorem RX_put (w : World) (l : List UInt8) : ∀ ys W k o o', RX w l ys W → w.heap.size + 3 ≤ k → W.heap[k]? = some o → o.isCells = false → RX w l ys (W.putObj k o') := by
  rintro ys W k o o' ⟨E1, E2, h1, h2, h3, h4⟩ hk ho hc
  exact ⟨E1, E2, (World.putObj_heap_other (by omega)).trans h1, (World.putObj_heap_other (by omega)).trans h2, h3.grown (grownBy_putObj' W k o') h3.size (fun q e => by cases e; omega), h4⟩

/-- What Rows hands back. -/
def RowsP (w : World) (r : Option (List Rw) × Int × Int) (e : Ending) (W' : World) : Prop :=
  ∃ v, e = .returned (.tuple #[v, .agg #[.int .i64 r.2.1, .int .i64 r.2.2]]) ∧ OwnRs W' w.heap.size v (r.1.getD []) ∧ Below w.heap.size w W'
theorem OwnRs.nil (W : World) (B : Nat) : OwnRs W B (.slice none 0 0) [] := ⟨[], World.ownsRow_nil _ _ _ _, trivial⟩

attribute [-go_sem] Builtin.append_
set_option maxRecDepth 100000 in
set_option maxHeartbeats 4000000 in
theorem wrows_in (s : ByteArray) (hs : s.size ≤ 1000000000) (w : World) (hv : ErrV w 7) :
    CallsIn Fence.wide 5 Tryz.prog 76 #[.string s] w (RowsP w (rowsR s.data.toList)) := by
  have HV := Lib.hid hv
  clear hv
  refine callsIn_of_wp_marks Tryz.func76 rfl trivial ?_ rfl
  simp only [Tryz.ntmps76, List.size_toArray, List.length_cons, List.length_nil, Nat.reduceAdd, Nat.reduceSub, Array.replicate_succ, Array.replicate_zero, List.push_toArray, List.append_toArray, List.nil_append, List.cons_append]
  by_cases hlong : 20000 < s.size
  · have hi : (20000 : Int) < s.size := by omega
    have hr : rowsR s.data.toList = (none, 4, 20000) := by unfold rowsR; rw [size_data, if_pos hlong]
    have HR := Lib.hid hr
    clear hr
    gi_wp2_with (fail)
    refine ⟨.tuple #[.slice none 0 0, .agg #[.int .i64 4, .int .i64 20000]], by simp [results, Tryz.results76, go_sem], .slice none 0 0, by rw [HR.out], ?_, ?_⟩
    · rw [HR.out]; exact OwnRs.nil _ _
    · exact gr_alloc (gr_alloc (Below.refl _ _) _) _
  · have hi : ¬ (20000 : Int) < s.size := by omega
    gi_wp2_with (fail)
    refine ⟨trivial, (callsIn_wide.2 (wlines s _)).mono ?_⟩
    rintro e w' ⟨rfl, hw'⟩
    obtain ⟨w1, hw1⟩ : ∃ w1, w1 = w' := ⟨_, rfl⟩
    have hszA : (((w.alloc (.cells #[.slice none 0 0] 79)).alloc (.cells #[.int .i64 0, .int .i64 0] 33)).alloc (.cells #[.slice none 0 0] 79)).heap.size = w.heap.size + 3 := by simp
    rw [hszA]
    have hsz : w1.heap.size = w.heap.size + 4 := by rw [hw1, hw']; simp
    have k1 : RK w [] w1 := by
      rw [hw1, hw']
      refine ⟨.slice none 0 0, [], ?_, OwnRs.nil _ _, ?_, ?_, gr_alloc (gr_alloc (gr_alloc (gr_alloc (Below.refl _ _) _) _) _) _, fun rest => by rw [preR_nil]; rfl, Nat.le_refl _⟩
      · exact (blk_at (by simp)).alloc _
      · exact (((Blk.new _ _ _).alloc _).alloc _).alloc _
      · exact ((blk_at (by simp)).alloc _).alloc _
    have x1 : Blk w1 (w.heap.size + 3) 9 #[.string (mkB s.data.toList)] := by
      rw [hw1, hw', mkB_of]
      exact blk_at (by simp)
    rw [← hw1]
    have S0 := RK_stays w
    have K1 := Lib.hid (And.intro k1 (And.intro x1 S0))
    clear hw' hw1 k1 x1 S0 hszA
    gi_wp2_with (fail)
    refine wpIn_range_stops rfl (by omega) (gf := 119) (lb := #[.pointer (some ⟨w.heap.size + 3, 0, none⟩)]) rfl trivial (enters_of Tryz.func119 (by kernel_rfl) rfl) (encs := encs2) (fun _ => rfl)
      KpL kpL_put
      (LnJ (w1.heap.size + 2) (w.heap.size + 3) s.data.toList (RK w)) (LnZ s.data.toList (RK w)) (RX w s.data.toList) (RX w s.data.toList) (LnY (w1.heap.size + 2) (w.heap.size + 3) s.data.toList (RK w)) ?hJ ?hX ?hY ?hZ ?hZX ?hstart
      (fun x => { tmps := #[.string s, undef, .pointer (some ⟨w.heap.size, 0, none⟩), .pointer (some ⟨w.heap.size + 1, 0, none⟩), .pointer (some ⟨w.heap.size + 1 + 1, 0, none⟩), .int .i64 (x.1 : Int), .string (mkB x.2), undef, undef, .string s, .int .i64 (s.size : Int), .bool false, undef, .string s, .func (.func 119) #[] #[.pointer (some ⟨w.heap.size + 3, 0, none⟩)], .int .i64 (x.1 : Int), .string (mkB x.2), undef, undef, undef, undef, undef, undef, undef, undef, undef, undef, undef, undef, undef, undef, undef, undef, undef, undef, undef, undef, undef, undef, undef, undef, undef, undef, undef, undef, undef, undef, undef, undef, undef, undef], defers := [] }) ?hit ?assign ?body ?done ?stop
    case hJ =>
      rintro xs X k r r' ⟨h1, h2, h3⟩ hl hr
      exact ⟨K1.out.2.2.put _ _ _ _ _ h1 (by omega) hr rfl, (World.putObj_heap_other (by omega)).trans h2, by simpa [World.putObj] using h3⟩
    case hX =>
      rintro xs X k r r' h1 hl hr
      exact RX_put _ _ _ _ _ _ _ h1 (by omega) hr rfl
    case hZX =>
      rintro xs X k r r' h1 hl hr
      exact RX_put _ _ _ _ _ _ _ h1 (by omega) hr rfl
    case hY =>
      rintro xs x X k r r' ⟨⟨h1, h2, h3⟩, h4⟩ hl hr
      exact ⟨⟨K1.out.2.2.put _ _ _ _ _ h1 (by omega) hr rfl, (World.putObj_heap_other (by omega)).trans h2, by simpa [World.putObj] using h3⟩, h4⟩
    case hZ =>
      rintro xs X k r r' ⟨h1, h2⟩ hl hr
      exact ⟨K1.out.2.2.put _ _ _ _ _ h1 (by omega) hr rfl, h2⟩
    case hstart =>
      intro o o'
      exact ⟨K1.out.2.2.alloc _ _ _ (K1.out.2.2.alloc _ _ _ K1.out.1), (K1.out.2.1.alloc _).alloc _, by simp⟩
    case hit =>
      intro li Ri Rxi hRi hRxi hYi X h0 hRX
      exact lines_iter _ (by omega) s.data.toList (by rw [size_data]; omega) (w.heap.size + 3) w1.heap.size _ K1.out.2.2 li _ (by omega) (by omega) Ri Rxi hRi hRxi (RX w s.data.toList) (RX_put w s.data.toList) hYi X h0 hRX
    case assign =>
      intro l' x Y Kk hK
      unfold encs2
      gi_wp2
      exact hK
    case body =>
      rintro l' pre ⟨o, p⟩ Y ⟨⟨⟨v, rows, h1, h2, h3, h4, h5, h6, h7⟩, h8, h9⟩, xs, r, rfl, ho, hsp⟩
      replace ho : o = offs 0 xs := ho
      replace hsp : xs ++ p :: r = splitL 10 s.data.toList := hsp
      rw [mkO_map] at h6
      have h66 := h6 (p :: r)
      rw [hsp, ← ho] at h66
      have hpl : p.length ≤ 20000 := by
        have := splitL_le 10 s.data.toList p (by rw [← hsp]; simp)
        rw [size_data] at this
        omega
      have hol : o ≤ 20001 := by
        have := offs_le hsp
        rw [size_data] at this
        omega
      have hxl : (mkO 0 xs).length ≤ 20001 := by
        have h1 := congrArg List.length (mkO_map xs 0)
        rw [List.length_map] at h1
        have h2 := congrArg List.length hsp
        have h3 := splitL_len 10 s.data.toList
        rw [List.length_append, List.length_cons] at h2
        rw [size_data] at h3
        omega
      have hmk : (mkB p).size = p.length := mkB_size p
      have b2 := h3.cell' (i := 0) rfl
      have b2f := h3.frozen 0
      have b3 := h4.cell' (i := 0) rfl
      have b3' := h4.cell' (i := 1) rfl
      have b3f := h4.frozen 0
      have b3f' := h4.frozen 1
      have b2l := h3.lt
      have b3l := h4.lt
      by_cases hlg : 1000 < p.length
      · have hi2 : (1000 : Int) < p.length := by omega
        rw [rowsF_long hlg] at h66
        have HF := Lib.hid (And.intro h3 (And.intro h4 (And.intro h5 h66)))
        clear h1 h2 h3 h4 h5 h6 h7 h8 h66 hsp ho
        gi_wp2_with (fail)
        obtain ⟨h3, h4, h5, h66⟩ := HF.out
        obtain ⟨q1, q2, q3⟩ := store_fault (ys := mkO 0 xs ++ [(o, p)]) h3 h4 h5 h66
        exact ⟨q1.from _, q2, q3⟩
      · have hi2 : ¬ (1000 : Int) < p.length := by omega
        have hwd := wwords (mkB p) o o Y.heap.size (Y.alloc (.cells #[.string (mkB p), .int .i64 0, .int .i64 (o : Int), .int .i64 (o : Int), .slice none 0 0] 159)) (by rw [hmk]; omega) (by omega)
          (ErrV.below (HV.out.below h5 HV.out.lt) (gr_alloc (Below.refl _ _) _) (HV.out.below h5 HV.out.lt).lt) (by have := HV.out.lt; have := h5.size; omega) (Blk.new _ _ _)
        rw [mkB_data] at hwd
        have HF := Lib.hid (And.intro h1 (And.intro h2 (And.intro h3 (And.intro h4 (And.intro h5 (And.intro h6 (And.intro h7 (And.intro h8 (And.intro h9 (And.intro hsp (And.intro ho h66)))))))))))
        have hv5 := h5.size
        obtain ⟨va, vc, rfl⟩ := h2.slice
        clear h1 h2 h3 h4 h5 h6 h7 h8 h66 hsp ho
        gi_wp2_with (fail)
        refine ⟨trivial, (callsIn_wide.2 hwd).mono ?_⟩
        cases hL : lineL o p with
        | mk a x =>
        cases a with
        | none =>
          rintro e W2 ⟨rfl, hbx⟩
          have hb2 : Below Y.heap.size Y W2 := (gr_alloc (Below.refl _ _) _).trans (hbx.below (by simp) (Nat.le_refl _))
          have hx0 : (0 : Int) ≤ x := by omega
          have hh : Blk W2 w.heap.size 79 #[.slice none 0 0] ∧ Blk W2 (w.heap.size + 1) 33 #[.int .i64 0, .int .i64 0] ∧ Below w.heap.size w W2 ∧ rowsF 0 (splitL 10 s.data.toList) = (none, 3, (x : Int)) := by
            obtain ⟨h1, h2, h3, h4, h5, h6, h7, h8, h9, hsp, ho, h66⟩ := HF.out
            refine ⟨h3.call hb2, h4.call hb2, gr_call h5 hb2, ?_⟩
            rw [h66, rowsF_bad hlg hL]; rfl
          have c2 := hh.1.cell' (i := 0) rfl
          have c2f := hh.1.frozen 0
          have c3 := hh.2.1.cell' (i := 0) rfl
          have c3' := hh.2.1.cell' (i := 1) rfl
          have c3f := hh.2.1.frozen 0
          have c3f' := hh.2.1.frozen 1
          have c2l := hh.1.lt
          have c3l := hh.2.1.lt
          have HH := Lib.hid (And.intro hh hb2)
          clear hh hb2 hbx hwd hL
          gi_wp2_with (fail)
          obtain ⟨⟨h3, h4, h5, h66⟩, hb2⟩ := HH.out
          obtain ⟨q1, q2, q3⟩ := store_fault (ys := mkO 0 xs ++ [(o, p)]) h3 h4 h5 h66
          exact ⟨((keeps_below hb2).trans q1).from _, q2, (KpL.below hb2).trans q3⟩
        | some ws =>
          rintro e W2 ⟨rfl, v', k, hst⟩
          have hb2 : Below Y.heap.size Y W2 := (gr_alloc (Below.refl _ _) _).trans (hst.2.2.below (by simp) (Nat.le_refl _))
          obtain ⟨d0, d1, d2, d3, d4, d5, d6⟩ := hst.facts
          obtain ⟨va', vc', rfl⟩ := own_slice hst.2.1
          have hrel : ∀ rest, rowsF 0 (((mkO 0 xs ++ [(o, p)]).map (·.2)) ++ rest) = preR (rows ++ rowOf o ws) (rowsF (offs 0 ((mkO 0 xs ++ [(o, p)]).map (·.2))) rest) := by
            intro rest
            obtain ⟨h1, h2, h3, h4, h5, h6, h7, h8, h9, hsp, ho, h66⟩ := HF.out
            rw [List.map_append, mkO_map, List.append_assoc]
            show rowsF 0 (xs ++ p :: rest) = preR _ (rowsF (offs 0 (xs ++ [p])) rest)
            rw [h6 (p :: rest), ← ho, rowsF_line hlg hL, preR_pre, offs_snoc, ← ho]
          have hhW : Blk W2 (w.heap.size + 1 + 1) 79 #[.slice va rows.length vc] ∧ OwnRs W2 w.heap.size (.slice va rows.length vc) rows ∧ Blk W2 w.heap.size 79 #[.slice none 0 0] ∧ Blk W2 (w.heap.size + 1) 33 #[.int .i64 0, .int .i64 0] ∧ Below w.heap.size w W2 ∧ rows.length ≤ (mkO 0 xs).length ∧ Blk W2 (w.heap.size + 3) 9 #[.string (mkB s.data.toList)] ∧ w1.heap.size + 2 ≤ W2.heap.size := by
            obtain ⟨h1, h2, h3, h4, h5, h6, h7, h8, h9, hsp, ho, h66⟩ := HF.out
            exact ⟨h1.call hb2, h2.below hb2, h3.call hb2, h4.call hb2, gr_call h5 hb2, h7, h8.call hb2, Nat.le_trans h9 hb2.size⟩
          have HH := Lib.hid (And.intro hhW (And.intro hb2 (And.intro hst hrel)))
          by_cases hws : ws = []
          · subst hws
            clear hhW hb2 hst hrel hwd hL
            gi_wp2_with (fail)
            obtain ⟨⟨h1, h2, h3, h4, h5, h7, h8, h9⟩, hb2, hst, hrel⟩ := HH.out
            refine ⟨(keeps_below hb2).from _, ⟨⟨_, rows, h1, h2, h3, h4, h5, ?_, ?_⟩, h8, by omega⟩, KpL.below hb2⟩
            · intro rest
              have := hrel rest
              rw [show rowOf o [] = [] from rfl, List.append_nil] at this
              exact this
            · rw [List.length_append]; omega
          · have hpos : (0 : Int) < ws.length := by have := List.length_pos_iff.2 hws; omega
            have hposn : 0 < ws.length := by omega
            have hro : rowOf o ws = [⟨o, ws⟩] := by unfold rowOf; rw [if_neg hws]
            obtain ⟨v2, X2, hrun, o2, hb3, hk3, hkeep⟩ := hhW.2.1.append hhW.2.2.2.2.1.size ⟨o, ws⟩ (own_weaken hst.2.1 (by have := HF.out.2.2.2.2.1.size; simp; omega)) (by have := hhW.2.2.2.2.2.1; omega) rfl
            obtain ⟨va2, vc2, rfl⟩ := o2.slice
            have k1 : W2.cell? ⟨w.heap.size + 1 + 1, 0, none⟩ = some (.slice va rows.length vc) := hhW.1.cell' (i := 0) rfl
            have k1l := hhW.1.lt
            have x1 := hkeep _ _ _ hhW.1 (by decide)
            have y1 : X2.cell? ⟨w.heap.size + 1 + 1, 0, none⟩ = some (.slice va rows.length vc) := x1.cell' (i := 0) rfl
            have y2 := x1.frozen 0
            have y3 := x1.lt
            have HX := Lib.hid (And.intro o2 (And.intro hb3 (And.intro hk3 (And.intro hkeep (And.intro hro x1)))))
            clear hhW hb2 hst hrel hwd hL o2 hb3 hk3 hkeep hro x1 hws
            gi_wp2_with (fail)
            gi_region
            all_goals
              gi_wp2_with (fail)
              obtain ⟨⟨h1, h2, h3, h4, h5, h7, h8, h9⟩, hb2, hst, hrel⟩ := HH.out
              obtain ⟨o2, hb3, hk3, hkeep, hro, x1⟩ := HX.out
              have hl1 : rows.length + 1 = (rows ++ [(⟨o, ws⟩ : Rw)]).length := by simp
              have o3 : OwnRs X2 w.heap.size (.slice va2 (rows.length + 1) vc2) (rows ++ [⟨o, ws⟩]) := by rw [hl1]; exact o2
              have hkx : KpL W2 X2 := fun k t cs hb ht => hkeep k t cs hb (by rcases ht with rfl | rfl | rfl <;> decide)
              have hsz3 := hb3.size
              refine ⟨(((keeps_below hb2).trans hk3).trans (KeepsOthers.setCell _ _ _)).from _, ⟨⟨_, rows ++ [⟨o, ws⟩], x1.set_ 0 _, o3.set_ x1 (by decide) (by decide) _ _, (hkeep _ _ _ h3 (by decide)).far (by show w.heap.size ≠ w.heap.size + 1 + 1; omega) _, (hkeep _ _ _ h4 (by decide)).far (by show w.heap.size + 1 ≠ w.heap.size + 1 + 1; omega) _, gr_set (h5.trans hb3) (by show w.heap.size ≤ w.heap.size + 1 + 1; omega) _, ?_, ?_⟩, (hkeep _ _ _ h8 (by decide)).far (by show w.heap.size + 3 ≠ w.heap.size + 1 + 1; omega) _, ?_⟩, ((KpL.below hb2).trans hkx).set_ x1 (by decide) (by decide) (by decide) _ _⟩
              · intro rest
                have := hrel rest
                rw [hro] at this
                exact this
              · rw [List.length_append, List.length_append, List.length_singleton, List.length_singleton]; omega
              · simp; omega
    case done =>
      rintro D xs Y hD ⟨⟨v, rows, h1, h2, h3, h4, h5, h6, h7⟩, rfl⟩ hKD
      rw [mkO_map] at h6
      have h66 := h6 []
      rw [List.append_nil] at h66
      obtain ⟨va, vc, rfl⟩ := h2.slice
      have t0 : Y.cell? ⟨w.heap.size + 1 + 1, 0, none⟩ = some (.slice va rows.length vc) := h1.cell' (i := 0) rfl
      have b2 := h3.cell' (i := 0) rfl
      have b2f := h3.frozen 0
      have b3 := h4.cell' (i := 0) rfl
      have b3' := h4.cell' (i := 1) rfl
      have b3f := h4.frozen 0
      have b3f' := h4.frozen 1
      have b2l := h3.lt
      have b3l := h4.lt
      have HZ := Lib.hid (And.intro h2 (And.intro h3 (And.intro h4 (And.intro h5 h66))))
      clear h1 h2 h3 h4 h5 h6 h7 h66
      gi_wp2
      obtain ⟨h2, h3, h4, h5, h66⟩ := HZ.out
      have n0 : w.heap.size ≠ w.heap.size + 1 := by omega
      have g3 := ((h3.set_ 0 (.slice va rows.length vc)).far (p := ⟨w.heap.size + 1, 0, none⟩) n0 (.int .i64 0)).far (p := ⟨w.heap.size + 1, 1, none⟩) n0 (.int .i64 0)
      have g4a := h4.far (p := ⟨w.heap.size, 0, none⟩) n0.symm (.slice va rows.length vc)
      have g4 := (g4a.set_ 0 (.int .i64 0)).set_ 1 (.int .i64 0)
      have o3 := h2.set_ h3 (by decide) (by decide) 0 (.slice va rows.length vc)
      have o4 := o3.set_ g4a (by decide) (by decide) 0 (.int .i64 0)
      have o5 := o4.set_ (g4a.set_ 0 (.int .i64 0)) (by decide) (by decide) 1 (.int .i64 0)
      have h6 := gr_set (gr_set (gr_set h5 (p := ⟨w.heap.size, 0, none⟩) (Nat.le_refl _) (.slice va rows.length vc)) (p := ⟨w.heap.size + 1, 0, none⟩) (by show w.heap.size ≤ w.heap.size + 1; omega) (.int .i64 0)) (p := ⟨w.heap.size + 1, 1, none⟩) (by show w.heap.size ≤ w.heap.size + 1; omega) (.int .i64 0)
      have hKD' : (((Y.setCell ⟨w.heap.size, 0, none⟩ (.slice va rows.length vc)).setCell ⟨w.heap.size + 1, 0, none⟩ (.int .i64 0)).setCell ⟨w.heap.size + 1, 1, none⟩ (.int .i64 0)).heap[D]? = some (.deferred (some [])) := by
        rw [Below.heap_setCell _ _ _ _ (by show D ≠ w.heap.size + 1; omega), Below.heap_setCell _ _ _ _ (by show D ≠ w.heap.size + 1; omega), Below.heap_setCell _ _ _ _ (by show D ≠ w.heap.size; omega)]
        exact hKD
      refine ⟨by simp, .inl ⟨_, _, rfl, run_takeDeferred hKD', ?_⟩⟩
      generalize ((Y.setCell ⟨w.heap.size, 0, none⟩ (.slice va rows.length vc)).setCell ⟨w.heap.size + 1, 0, none⟩ (.int .i64 0)).setCell ⟨w.heap.size + 1, 1, none⟩ (.int .i64 0) = Z at g3 g4 o5 h6 hKD' ⊢
      have c3 : Blk (Z.putObj D (.deferred none)) w.heap.size 79 #[.slice va rows.length vc] := (World.putObj_heap_other (by omega)).trans g3
      have c4 : Blk (Z.putObj D (.deferred none)) (w.heap.size + 1) 33 #[.int .i64 0, .int .i64 0] := (World.putObj_heap_other (by omega)).trans g4
      have e3 := c3.cell' (i := 0) rfl
      have e4 := c4.cell' (i := 0) rfl
      have e4' := c4.cell' (i := 1) rfl
      have hr : rowsR s.data.toList = (some rows, 0, 0) := by
        unfold rowsR
        rw [size_data, if_neg hlong, h66]
        show (some (rows ++ []), _, _) = _
        rw [List.append_nil]
      refine ⟨.tuple #[.slice va rows.length vc, .agg #[.int .i64 0, .int .i64 0]], by simp [results, Tryz.results76, go_sem, e3, e4, e4'], .slice va rows.length vc, by rw [hr], ?_, ?_⟩
      · rw [hr]
        exact o5.keep (fun i t cs hi _ => (World.putObj_heap_other (by rintro rfl; unfold Blk at hi; rw [hi] at hKD'; cases hKD')).trans hi)
      · exact h6.grown (grownBy_putObj' Z D (.deferred none)) h6.size (fun q e => by cases e; omega)
    case stop =>
      rintro D xs Y hD ⟨E1, E2, h1, h2, h3, h4⟩ hKD
      have b2 := h1.cell' (i := 0) rfl
      have b3 := h2.cell' (i := 0) rfl
      have b3' := h2.cell' (i := 1) rfl
      have HZ := Lib.hid (And.intro h3 h4)
      have g1 : Blk (Y.putObj D (.deferred none)) w.heap.size 79 #[.slice none 0 0] := (World.putObj_heap_other (by omega)).trans h1
      have g2 : Blk (Y.putObj D (.deferred none)) (w.heap.size + 1) 33 #[.int .i64 E1, .int .i64 E2] := (World.putObj_heap_other (by omega)).trans h2
      have c2 := g1.cell' (i := 0) rfl
      have c3 := g2.cell' (i := 0) rfl
      have c3' := g2.cell' (i := 1) rfl
      clear h1 h2 h3 h4 g1 g2
      gi_wp2
      refine ⟨by simp, .inl ⟨_, _, rfl, run_takeDeferred hKD, ?_⟩⟩
      have hr : rowsR s.data.toList = (none, E1, E2) := by unfold rowsR; rw [size_data, if_neg hlong]; exact HZ.out.2
      refine ⟨.tuple #[.slice none 0 0, .agg #[.int .i64 E1, .int .i64 E2]], by simp [results, Tryz.results76, go_sem, c2, c3, c3'], .slice none 0 0, by rw [hr], by rw [hr]; exact OwnRs.nil _ _, ?_⟩
      exact HZ.out.1.grown (grownBy_putObj' Y D (.deferred none)) HZ.out.1.size (fun q e => by cases e; omega)
theorem wrows (s : ByteArray) (hs : s.size ≤ 1000000000) (w : World) (hv : ErrV w 7) :
    Calls Tryz.prog 76 #[.string s] w (RowsP w (rowsR s.data.toList)) := callsIn_wide.1 (wrows_in s hs w hv)
end Go.Proofs.YthpcbaamkeiffaaGreatDoor
