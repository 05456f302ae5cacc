/-
  query's Pairs, walked; conditions: strings of at most 1000000 bytes, a variable of the library is an int.
-/
import Derived.Test.YtfbkbnojbbpopaaDoorQyJ
import Derived.Test.YtfbkbnojbbpopaaDoorQyB
namespace Go.Proofs.YtfbkbnojbbpopaaDoor
open Go.RowKit Go.Shelf
set_option linter.unusedVariables false
set_option linter.unusedSimpArgs false
attribute [local go_sem] Oper.semAt_some

/-- The library's variable is an int. -/
def MaxOk (w : World) : Prop := ∃ m, w.cell? ⟨0, 0, none⟩ = some (.int .i64 m)
theorem MaxOk.below {w w' : World} {B : Nat} (h : MaxOk w) (hb : Below B w w') (hB : w.heap.size ≤ B) : MaxOk w' := by
  obtain ⟨m, hm⟩ := h
  have hlt : 0 < w.heap.size := by
    rcases Nat.lt_or_ge 0 w.heap.size with h' | h'
    · exact h'
    · rw [World.cell?, Array.getElem?_eq_none h'] at hm
      simp at hm
  exact ⟨m, by rw [hb.cell (p := ⟨0, 0, none⟩) (by show 0 < B; omega)]; exact hm⟩
theorem infoPair : (Tryd.prog.info? 44).map (fun i => (i.zero, i.size, i.bytes)) = some (some (.agg #[.string ByteArray.empty, .string ByteArray.empty, .bool false]), 3, 40) := by kernel_rfl
def pairV (p : Pr) : List Value := [.string p.n, .string p.v, .bool p.b]
def flatP (l : List Pr) : List Value := l.flatMap pairV
theorem flatP_snoc (l : List Pr) (p : Pr) : flatP (l ++ [p]) = flatP l ++ [.string p.n, .string p.v, .bool p.b] := by simp [flatP, pairV]
theorem flatP_len (l : List Pr) : (flatP l).length = l.length * 3 := by
  induction l with
  | nil => rfl
  | cons a t ih =>
    show (pairV a ++ flatP t).length = _
    rw [List.length_append, ih]
    simp [pairV]; omega
theorem pair_new {w : World} {n : Nat} (hn : n = w.heap.size) (a b c : Value) (e : TypeId) : ∀ j u, [a, b, c][j]? = some u → (w.alloc (.cells #[a, b, c] e)).cell? ((⟨n, 0, none⟩ : Addr).add j) = some u := by
  subst hn
  intro j u hj
  have h := (Blk.new w e #[a, b, c]).cell j
  rw [Addr.add_lit, Nat.zero_add, h, List.getElem?_toArray]
  exact hj
theorem pair_cells (a b : ByteArray) (c : Bool) : ∀ u ∈ [Value.string a, .string b, .bool c], u.oneCell' = true := by
  intro u hu
  simp at hu
  rcases hu with rfl | rfl | rfl <;> rfl

theorem qcut (s : ByteArray) (hs : s.size ≤ 1000000000) (w : World) (hm : MaxOk w) :
    Calls Tryd.prog 38 #[.string s, .string ⟨#[61]⟩] w fun e w' => e = .returned (.tuple #[.string (pairOf s.data.toList).n, .string (pairOf s.data.toList).v, .bool (!(pairOf s.data.toList).b)]) ∧ ∃ n, w' = w.drewN n := by
  obtain ⟨m, hm⟩ := hm
  obtain ⟨e1, e2, e3⟩ := cut_pair s
  refine (Tryd.strings_Cut s ⟨#[61]⟩ m w (by omega) hm).mono ?_
  rintro e w' ⟨rfl, h⟩
  refine ⟨?_, h⟩
  rw [← e1, ← e2, ← e3]
  rfl

/-- What is known of the list between two rounds. -/
def PK (w : World) (B : Nat) (ps : List (List UInt8)) (W : World) : Prop :=
  ∃ v, Blk W B 26 #[v] ∧ W.ownsRow w.heap.size 44 3 v ps.length (flatP (ps.map pairOf)) ∧ Below w.heap.size w W
theorem PK_stays (w : World) (B : Nat) (hB : w.heap.size ≤ B) : Stays (B + 1) (PK w B) where
  set_ := by
    rintro xs W b v u ⟨x, h1, h2, h3⟩ hb hle
    exact ⟨x, h1.far (by show B ≠ b; omega) _, own_setCell h2 hb (by decide) _, gr_set h3 (by show w.heap.size ≤ b; omega) _⟩
  alloc := by
    rintro xs W o ⟨x, h1, h2, h3⟩
    exact ⟨x, h1.alloc _, h2.alloc _, gr_alloc h3 _⟩
  put := by
    rintro xs W k o o' ⟨x, h1, h2, h3⟩ hk ho hc
    exact ⟨x, (World.putObj_heap_other (by omega)).trans h1, ownsRow_putObj h2 _ ho hc, h3.grown (grownBy_putObj' W k o') h3.size (fun q e => by cases e; omega)⟩
  drewN := by
    rintro xs W n ⟨x, h1, h2, h3⟩
    exact ⟨x, h1.drewN n, own_drewN h2 n, below_drewN h3 n⟩

def PairsPost (w : World) (l : List Pr) (er : Int) (e : Ending) (W' : World) : Prop :=
  ∃ v, e = .returned (.tuple #[v, .int .i64 er]) ∧ W'.ownsRow w.heap.size 44 3 v l.length (flatP l) ∧ Below w.heap.size w W'

set_option maxRecDepth 100000 in
set_option maxHeartbeats 4000000 in
theorem qpairs_in (s : ByteArray) (hs : s.size ≤ 1000000) (w : World) (hm : MaxOk w) :
    CallsIn Fence.wide 5 Tryd.prog 12 #[.string s] w (PairsPost w (pairsQ s.data.toList) (chkL s.data.toList)) := by
  obtain ⟨i0, hi, hz0, hz1, hz2⟩ := info_parts infoPair
  have HM := Lib.hid hm
  clear hm
  refine callsIn_of_wp_marks Tryd.func12 rfl trivial ?_ rfl
  simp only [Tryd.ntmps12, List.size_toArray, List.length_cons, List.length_nil, Nat.reduceAdd, Nat.reduceSub, Array.replicate_succ, Array.replicate_zero, List.push_toArray, List.append_toArray, List.nil_append, List.cons_append]
  gi_wp2_with (fail)
  refine ⟨trivial, (callsIn_wide.2 (qcheck s _ (by omega))).mono ?_⟩
  rintro e W1 ⟨rfl, h1⟩
  have H1 := Lib.hid h1
  have hz1' := h1.size
  clear h1
  by_cases hc : chkL s.data.toList = 0
  · have hq : pairsQ s.data.toList = pairsL s.data.toList := by unfold pairsQ; rw [if_pos hc]
    rw [hc]
    have HC := Lib.hid (And.intro hc hq)
    clear hc hq
    gi_wp2_with (fail)
    refine ⟨trivial, (callsIn_wide.2 (qpieces s _)).mono ?_⟩
    rintro e w' ⟨rfl, hw'⟩
    rw [World.size_alloc]
    obtain ⟨w1, hw1⟩ : ∃ w1, w1 = w' := ⟨_, rfl⟩
    have hsz : w1.heap.size = W1.heap.size + 2 := by rw [hw1, hw']; simp
    have k1 : PK w W1.heap.size [] w1 := by
      rw [hw1, hw']
      exact ⟨.slice none 0 0, (Blk.new _ _ _).alloc _, World.ownsRow_nil _ _ _ _, gr_alloc (gr_alloc H1.out _) _⟩
    have x1 : Blk w1 (W1.heap.size + 1) 9 #[.string (mkB s.data.toList)] := by
      rw [hw1, hw', mkB_of]
      exact blk_at (by simp)
    rw [← hw1]
    have S0 := PK_stays w W1.heap.size hz1'
    have K1 := Lib.hid (And.intro k1 (And.intro x1 S0))
    clear hw' hw1 k1 x1 S0
    gi_wp2_with (fail)
    refine wpIn_range_kept rfl (by omega) (gf := 51) (lb := #[.pointer (some ⟨W1.heap.size + 1, 0, none⟩)]) rfl trivial (enters_of Tryd.func51 (by kernel_rfl) rfl) (encs := encS1) (fun _ => rfl)
      (KpP W1.heap.size) (kpP_put W1.heap.size)
      (PcJ (w1.heap.size + 2) (W1.heap.size + 1) s.data.toList (PK w W1.heap.size)) (PcZ s.data.toList (PK w W1.heap.size)) (PcY (w1.heap.size + 2) (W1.heap.size + 1) s.data.toList (PK w W1.heap.size)) ?hJ ?hY ?hZ ?hstart
      (fun x => { tmps := #[.string s, undef, .slice none 0 0, .int .i64 0, .int .i64 0, .pointer (some ⟨W1.heap.size, 0, none⟩), .string (mkB x), undef, undef, undef, .string s, .int .i64 0, .int .i64 0, .bool false, undef, .string s, .func (.func 51) #[] #[.pointer (some ⟨W1.heap.size + 1, 0, none⟩)], .string (mkB x), undef, undef, undef, undef, undef, undef, undef, undef, undef, undef, undef, undef, undef, undef, undef], defers := [] }) ?hit ?assign ?body ?done
    case hJ =>
      rintro xs X k r r' ⟨h1, h2, h3⟩ hl hr
      exact ⟨K1.out.2.2.put _ _ _ _ _ h1 (by omega) hr rfl, (World.putObj_heap_other (by omega)).trans h2, by simpa [World.putObj] using h3⟩
    case hY =>
      rintro xs x X k r r' ⟨⟨h1, h2, h3⟩, h4⟩ hl hr
      exact ⟨⟨K1.out.2.2.put _ _ _ _ _ h1 (by omega) hr rfl, (World.putObj_heap_other (by omega)).trans h2, by simpa [World.putObj] using h3⟩, h4⟩
    case hZ =>
      rintro xs X k r r' ⟨h1, h2⟩ hl hr
      exact ⟨K1.out.2.2.put _ _ _ _ _ h1 (by omega) hr rfl, h2⟩
    case hstart =>
      intro o o'
      exact ⟨K1.out.2.2.alloc _ _ _ (K1.out.2.2.alloc _ _ _ K1.out.1), (K1.out.2.1.alloc _).alloc _, by simp⟩
    case hit =>
      intro li Ri hRi hYi X h0 hRX
      exact pieces_iter _ (by omega) s.data.toList (by rw [size_data]; omega) (W1.heap.size + 1) w1.heap.size W1.heap.size _ K1.out.2.2 li _ (by omega) (by omega) (by omega) Ri hRi hYi X h0 hRX
    case assign =>
      intro l' x Y Kk hK
      unfold encS1
      gi_wp2
      exact hK
    case body =>
      rintro l' pre x Y ⟨⟨⟨v, h1, h2, h3⟩, h4, h5⟩, h6, h7, h8⟩
      obtain ⟨va, vc, rfl⟩ := own_slice h2
      have t0 := h1.cell' (i := 0) rfl
      have tf := h1.frozen 0
      have tl := h1.lt
      have hY0 := h3.size
      have hpl : pre.length ≤ 1000001 := by rw [List.length_append, List.length_singleton, size_data] at h8; omega
      have hxs : (mkB x).size ≤ 1000000000 := by rw [mkB_size]; rw [size_data] at h7; omega
      have HY := Lib.hid (And.intro h1 (And.intro h3 (And.intro h4 h5)))
      clear h1 h3 h4 h5 h6 h7 h8
      gi_wp2_with (fail)
      refine ⟨trivial, (callsIn_wide.2 (qcut (mkB x) hxs _ (HM.out.below HY.out.2.1 (Nat.le_refl _)))).mono ?_⟩
      rintro e Y1 ⟨rfl, q, rfl⟩
      rw [mkB_data]
      obtain ⟨p, hp⟩ : ∃ p, p = pairOf x := ⟨_, rfl⟩
      rw [← hp]
      have HP := Lib.hid hp
      clear hp
      have h2' := own_drewN h2 q
      gi_wp2_with (gi_at_builtin; refine wpListIn_append_own _ rfl _ _ 26 rfl w.heap.size 44 i0 _ 3 40 Tryd.underlying26 hi hz0 hz1 hz2 rfl (by decide) _ _ _ rfl (h2'.alloc _) ⟨(Y.drewN q).heap.size, 0, none⟩ 1 1 [.string p.n, .string p.v, .bool p.b] rfl rfl ?c1 ?c2 ?c3 ?c4 ?c5 ?_)
      case c1 => exact pair_new rfl _ _ _ _
      case c2 => exact pair_cells _ _ _
      case c3 => unfold maxLen; omega
      case c4 => omega
      case c5 => simp; omega
      intro v' W2 hown' hgrow _
      obtain ⟨vb, vd, rfl⟩ := own_slice hown'
      have ha := ((HY.out.1.drewN q).alloc (.cells #[.string p.n, .string p.v, .bool p.b] 44))
      have hB2 := ha.grown hgrow (own_blk_ne (h2'.alloc _) ha (by decide))
      have u0 := hB2.cell' (i := 0) rfl
      have uf := hB2.frozen 0
      have ul := hB2.lt
      have W := Lib.hid (And.intro hown' (And.intro hgrow (And.intro hB2 h2')))
      clear hown' hgrow ha hB2 h2 h2' t0 tf tl
      gi_wp2_with (fail)
      obtain ⟨hown', hgrow, hB2, h2'⟩ := W.out
      obtain ⟨h1, h3, h4, h5⟩ := HY.out
      have hop := (h2'.alloc (.cells #[.string p.n, .string p.v, .bool p.b] 44)).lt
      have ho1 : KpP W1.heap.size Y W2 := ((Others.refl 44 W1.heap.size Y).drewN q).alloc (.cells #[.string p.n, .string p.v, .bool p.b] 44) |>.grown (h2'.alloc _) hgrow
      have hk1 : KeepsOthers Y W2 := (show KeepsOthers Y (Y.drewN q) from ⟨Nat.le_refl _, fun _ _ h _ => h⟩).trans ((KeepsOthers.alloc (Y.drewN q) (.cells #[.string p.n, .string p.v, .bool p.b] 44)).trans (KeepsOthers.of_grownBy hgrow (fun j o hj ho => by
        rcases (h2'.alloc (.cells #[.string p.n, .string p.v, .bool p.b] 44)).2 with ⟨e, _⟩ | ⟨g, cap, cur, e, _, hg, _⟩
        · rw [e] at hj; cases hj
        · rw [e] at hj; cases hj
          rw [hg] at ho; cases ho; rfl)))
      have hb2 : Below w.heap.size w W2 := (gr_alloc (below_drewN h3 q) _).grown hgrow (gr_alloc (below_drewN h3 q) _).size (fun k hk => (hop k hk).1)
      have hst : W2.ownsRow w.heap.size 44 3 (.slice vb (pre.length + 1) vd) (pre ++ [x]).length (flatP ((pre ++ [x]).map pairOf)) := by
        rw [List.map_append, List.length_append, List.length_singleton, List.map_singleton, flatP_snoc, ← HP.out]
        exact hown'
      refine ⟨(hk1.trans (KeepsOthers.setCell W2 _ _)).from _, ⟨⟨_, hB2.set_ 0 _, own_setCell hst hB2 (by decide) _, gr_set hb2 (by show w.heap.size ≤ W1.heap.size; omega) _⟩, ?_, ?_⟩, ?_⟩
      · exact (ho1 _ _ _ h4 (by omega) (by decide)).far (by show W1.heap.size + 1 ≠ W1.heap.size; omega) _
      · have := hk1.size; simp; omega
      · exact ho1.setCell rfl _
    case done =>
      rintro D xs Y hD ⟨⟨v, h1, h2, h3⟩, rfl⟩ hKD
      obtain ⟨va, vc, rfl⟩ := own_slice h2
      have t0 := h1.cell' (i := 0) rfl
      have HZ := Lib.hid (And.intro h1 (And.intro h2 h3))
      clear h1 h2 h3
      gi_wp2
      refine ⟨by simp, .inl ⟨_, _, rfl, run_takeDeferred hKD, ?_⟩⟩
      obtain ⟨h1, h2, h3⟩ := HZ.out
      refine ⟨_, results_tmp2 rfl _ _ _, .slice va (neP (splitL 38 s.data.toList)).length vc, by rw [HC.out.1]; rfl, ?_, ?_⟩
      · have := ownsRow_putObj h2 (.deferred none) hKD rfl
        rw [HC.out.2]
        unfold pairsL
        rw [List.length_map]
        exact this
      · exact h3.grown (grownBy_putObj' Y D (.deferred none)) h3.size (fun q e => by cases e; omega)
  · have hq : pairsQ s.data.toList = [] := by unfold pairsQ; rw [if_neg hc]
    have HQ := Lib.hid hq
    have hne : (chkL s.data.toList != 0) = true := by simpa using hc
    clear hc hq
    gi_wp2
    refine ⟨_, results_tmp2 rfl _ _ _, .slice none 0 0, rfl, ?_, H1.out⟩
    rw [HQ.out]
    exact World.ownsRow_nil _ _ _ _

theorem qpairs (s : ByteArray) (hs : s.size ≤ 1000000) (w : World) (hm : MaxOk w) :
    Calls Tryd.prog 12 #[.string s] w (PairsPost w (pairsQ s.data.toList) (chkL s.data.toList)) := callsIn_wide.1 (qpairs_in s hs w hm)
end Go.Proofs.YtfbkbnojbbpopaaDoor
