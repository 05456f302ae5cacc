/-
  percent.read: what a string says up to its end or to the first escape that is none; condition: strings no longer than Go's own.
-/
import Derived.Test.YtfbkbnojbbpopaaDoorPct
import Derived.Deep.LoopGhost
namespace Go.Proofs.YtfbkbnojbbpopaaDoor
open Go.RowKit

/-- What read leaves: a reader that stands behind what was read; its bytes; its escapes; the fault. -/
def ReadPost (s : ByteArray) (w : World) (e : Ending) (w' : World) : Prop :=
  ∃ g v, e = .returned (.tuple #[.pointer (some ⟨g, 0, none⟩), .agg #[.int .i64 (rErr s), .int .i64 (rAt s)]]) ∧
    Blk w' g 75 #[.string s, .int .i64 ((scan s.data.toList).2.1 : Int), v, .int .i64 ((scan s.data.toList).2.2 : Int)] ∧
    w'.ownsRow w.heap.size 5 1 v (scan s.data.toList).1.length (Lib.byteCells (scan s.data.toList).1) ∧ w.heap.size ≤ g ∧ Below w.heap.size w w'

/-- The loop's relation: what has been read, and what is still to come, make up the whole. -/
def ReadAt (s : ByteArray) (l : List UInt8) (i k : Nat) : Prop :=
  i ≤ s.size ∧ l ++ (scan (s.data.toList.drop i)).1 = (scan s.data.toList).1 ∧ i + (scan (s.data.toList.drop i)).2.1 = (scan s.data.toList).2.1 ∧ k + (scan (s.data.toList.drop i)).2.2 = (scan s.data.toList).2.2 ∧ l.length ≤ i ∧ k ≤ i

def ReadRel (s : ByteArray) (w0 : World) (n : Nat) (wr : World) : Prop :=
  ∃ (l : List UInt8) (i k : Nat) (v : Value), n = s.size - i ∧ ReadAt s l i k ∧ Blk wr (w0.heap.size + 1) 75 #[.string s, .int .i64 (i : Int), v, .int .i64 (k : Int)] ∧ wr.ownsRow w0.heap.size 5 1 v l.length (Lib.byteCells l) ∧
    Blk wr w0.heap.size 40 #[.int .i64 0, .int .i64 0] ∧ Below w0.heap.size w0 wr

theorem readAt_start (s : ByteArray) : ReadAt s [] 0 0 := ⟨Nat.zero_le _, by simp, by simp, by simp, Nat.le_refl _, Nat.le_refl _⟩

theorem readRel_start (s : ByteArray) (w : World) :
    ReadRel s w s.size ((w.alloc (Obj.cells #[.int .i64 0, .int .i64 0] 40)).alloc (Obj.cells #[.string s, .int .i64 0, .slice none 0 0, .int .i64 0] 75)) :=
  ⟨[], 0, 0, .slice none 0 0, rfl, readAt_start s, by simpa using Blk.new (w.alloc (Obj.cells #[.int .i64 0, .int .i64 0] 40)) 75 #[.string s, .int .i64 0, .slice none 0 0, .int .i64 0], World.ownsRow_nil _ _ _ _,
    (Blk.new _ _ _).alloc _, ((Below.refl _ _).alloc (Nat.le_refl _) _).alloc (by simp) _⟩

theorem readAt_end {s : ByteArray} {l : List UInt8} {i k : Nat} (h : ReadAt s l i k) (he : scan (s.data.toList.drop i) = ([], 0, 0)) :
    l = (scan s.data.toList).1 ∧ i = (scan s.data.toList).2.1 ∧ k = (scan s.data.toList).2.2 := by
  obtain ⟨_, h1, h2, h3, _⟩ := h
  rw [he] at h1 h2 h3
  exact ⟨by simpa using h1, by simpa using h2, by simpa using h3⟩
theorem readAt_plain {s : ByteArray} {l : List UInt8} {i k : Nat} (h : ReadAt s l i k) (hi : i < s.size) (hc : s[i] ≠ 37) : ReadAt s (l ++ [s[i]]) (i + 1) k := by
  obtain ⟨h0, h1, h2, h3, h4, h5⟩ := h
  rw [drop_at s i hi, scan_plain _ _ hc] at h1 h2 h3
  exact ⟨by omega, by simpa using h1, by simp at h2; omega, by simpa using h3, by simp; omega, by omega⟩
theorem readAt_esc {s : ByteArray} {l : List UInt8} {i k : Nat} {b c : UInt8} {u : List UInt8} (h : ReadAt s l i k) (hi : i < s.size) (hl : s.data.toList.drop i = 37 :: b :: c :: u) (hb : 0 ≤ hexv b) (hc : 0 ≤ hexv c) :
    i + 3 ≤ s.size ∧ ReadAt s (l ++ [escV b c]) (i + 3) (k + 1) := by
  obtain ⟨h0, h1, h2, h3, h4, h5⟩ := h
  have hu : s.data.toList.drop (i + 3) = u := by
    rw [← List.drop_drop, hl]; rfl
  have hz : i + 3 ≤ s.size := by
    have := congrArg List.length hl
    simp only [List.length_drop, size_data, List.length_cons] at this
    omega
  rw [hl, scan_esc _ _ _ ⟨hb, hc⟩] at h1 h2 h3
  unfold ReadAt
  rw [hu]
  exact ⟨hz, hz, by simpa using h1, by simp at h2; omega, by simp at h3; omega, by simp; omega, by omega⟩

theorem readPost_mk {s : ByteArray} {w W : World} {l : List UInt8} {i k : Nat} {v : Value} {er fa : Int} (hl : l = (scan s.data.toList).1 ∧ i = (scan s.data.toList).2.1 ∧ k = (scan s.data.toList).2.2)
    (he : (er = 0 ∧ fa = 0 ∧ i = s.size) ∨ (er = 3 ∧ fa = i ∧ i < s.size))
    (hblk : Blk W (w.heap.size + 1) 75 #[.string s, .int .i64 (i : Int), v, .int .i64 (k : Int)]) (hown : W.ownsRow w.heap.size 5 1 v l.length (Lib.byteCells l)) (hbel : Below w.heap.size w W) :
    ReadPost s w (.returned (.tuple #[.pointer (some ⟨w.heap.size + 1, 0, none⟩), .agg #[.int .i64 er, .int .i64 fa]])) W := by
  obtain ⟨rfl, h2, h3⟩ := hl
  refine ⟨w.heap.size + 1, v, ?_, by rw [← h2, ← h3]; exact hblk, hown, by omega, hbel⟩
  unfold rErr rAt
  rcases he with ⟨rfl, rfl, h⟩ | ⟨rfl, rfl, h⟩
  · have ho : okS s := by unfold okS; omega
    rw [if_pos ho, if_pos ho]
  · have ho : ¬ okS s := by unfold okS; omega
    rw [if_neg ho, if_neg ho, h2]

set_option maxRecDepth 100000 in
set_option maxHeartbeats 1000000 in
theorem pread (s : ByteArray) (w : World) (hs : s.size ≤ 1000000000) :
    Calls Tryd.prog 45 #[.string s] w (ReadPost s w) := by
  obtain ⟨i0, hi, hz0, hz1, hz2⟩ := info_parts infoByte
  go_enter Tryd.func45, Tryd.ntmps45
  go_wp2_with (fail)
  go_step3
  go_wp2_with (fail)
  go_step3
  go_wp2_with (fail)
  go_loopg [] s.size (fun n wr => ReadRel s w n wr)
  case atStart => exact readRel_start s w
  case round =>
    obtain ⟨l, i, k, v, hn, hat, hblk, hown, hflt, hbel⟩ := hrel
    obtain ⟨va, vc, rfl⟩ := own_slice hown
    have A := Lib.hid (And.intro hat (And.intro hblk (And.intro hown (And.intro hflt hbel))))
    have h0 := hblk.cell' (i := 0) (v := .string s) rfl
    have h1 := hblk.cell' (i := 1) (v := .int .i64 (i : Int)) rfl
    have d0 := hflt.cell' (i := 0) (v := .int .i64 0) rfl
    have d1 := hflt.cell' (i := 1) (v := .int .i64 0) rfl
    have f0 := hflt.frozen 0
    have f1 := hflt.frozen 1
    by_cases hlt : i < s.size
    · by_cases hc : s[i] = 37
      · cases hes : escL (s.data.toList.drop i)
        · have hsc : scan (s.data.toList.drop i) = ([], 0, 0) := by rw [drop_at s i hlt, hc] at hes ⊢; exact scan_bad _ hes
          have A2 := Lib.hid (And.intro hlt (And.intro hsc (And.intro hc hes)))
          clear hn hat hblk hown hflt hbel hc hes hsc
          go_wp2_with (go_at_call 63; refine (pmore_yes s _ i _ hlt (by exact h0) (by exact h1)).mono ?_; rintro e w' ⟨rfl, nq0, rfl⟩)
          refine (pnext_bad s _ i _ _ _ hs hlt A2.out.2.2.1 A2.out.2.2.2 (by exact A.out.2.1) rfl rfl).mono ?_
          rintro e w1 ⟨rfl, hblk1, hg1⟩
          have B := Lib.hid hblk1
          have C := Lib.hid hg1
          have h0' := hblk1.cell' (i := 0) (v := .string s) rfl
          have h1' := hblk1.cell' (i := 1) (v := .int .i64 (i : Int)) rfl
          have hflt1 := Lib.hid ((A.out.2.2.2.1.drewN nq0).grown (w' := w1) hg1 (by simp))
          have d0' := hflt1.out.cell' (i := 0) (v := .int .i64 0) rfl
          have d1' := hflt1.out.cell' (i := 1) (v := .int .i64 0) rfl
          have f0' := hflt1.out.frozen 0
          have f1' := hflt1.out.frozen 1
          clear hblk1 hg1
          go_wp2_with (go_at_call 63; refine (pmore_yes s _ i _ hlt (by exact h0') (by exact h1')).mono ?_; rintro e w' ⟨rfl, nq, rfl⟩)
          go_region
          all_goals go_wp2
          rw [Exit.noGoto_ret]
          refine bodyPost_ret (v := .tuple #[.pointer (some ⟨w.heap.size + 1, 0, none⟩), .agg #[.int .i64 3, .int .i64 (i : Int)]]) (by simp [results, Tryd.results45, go_sem, d0', d1']) rfl ?_
          obtain ⟨hat, hblk, hown, hflt, hbel⟩ := A.out
          have hown1 := own_grown (own_drewN hown nq0) (hblk.drewN nq0) (by decide) C.out
          exact readPost_mk (readAt_end hat A2.out.2.1) (.inr ⟨rfl, rfl, hlt⟩) (((B.out.drewN _).far (by simp) _).far (by simp) _)
            (own_setCell (own_setCell (own_drewN hown1 _) (hflt1.out.drewN _) (by decide) _) ((hflt1.out.drewN _).set_ 0 _) (by decide) _) (((below_drewN ((below_drewN hbel nq0).grown C.out (by have := hflt.lt; simp; omega) (by simp)) _).setCell (by simp) _).setCell (by simp) _)
        · obtain ⟨b, c, u, hl, hb, hc'⟩ : ∃ b c u, s.data.toList.drop i = 37 :: b :: c :: u ∧ 0 ≤ hexv b ∧ 0 ≤ hexv c := by
            rcases four (s.data.toList.drop i) with h | ⟨a, t, h, ha⟩ | h | ⟨t, h, he⟩
            · rw [h] at hes; simp [escL] at hes
            · rw [drop_at s i hlt, hc] at h; exact absurd (List.cons.inj h).1.symm ha
            · exact h
            · rw [h, he] at hes; cases hes
          obtain ⟨h3, hra⟩ := readAt_esc hat hlt hl hb hc'
          have hl := Lib.hid hl
          have hb := Lib.hid hb
          have hc' := Lib.hid hc'
          have hlb := hat.2.2.2.2.1
          have hkb := hat.2.2.2.2.2
          have e0 := hblk.cell' (i := 3) (v := .int .i64 (k : Int)) rfl
          have A2 := Lib.hid (And.intro hn (And.intro h3 hra))
          clear hn hat hblk hown hflt hbel hc hes
          go_wp2_with (go_at_call 63; refine (pmore_yes s _ i _ hlt (by exact h0) (by exact h1)).mono ?_; rintro e w' ⟨rfl, nq0, rfl⟩)
          refine (pnext_esc s _ i _ _ b c u _ hs hlt hl.out hb.out hc'.out (by exact A.out.2.1) rfl rfl).mono ?_
          rintro e w1 ⟨rfl, hblk1, hg1⟩
          have hblk1 : Blk w1 (w.heap.size + 1) 75 #[.string s, .int .i64 ((i : Int) + 3), .slice va l.length vc, .int .i64 (k : Int)] := hblk1
          have hown1 := own_grown (own_drewN A.out.2.2.1 nq0) (A.out.2.1.drewN nq0) (by decide) hg1
          have hflt1 := (A.out.2.2.2.1.drewN nq0).grown hg1 (by simp)
          have hbel1 := (below_drewN A.out.2.2.2.2 nq0).grown hg1 (by have := hflt1.lt; have := A.out.2.2.2.1.lt; simp; omega) (by simp)
          have c2 := hblk1.cell' (i := 2) (v := .slice va l.length vc) rfl
          have c3 := hblk1.cell' (i := 3) (v := .int .i64 (k : Int)) rfl
          have fz3 := hblk1.frozen 3
          have hown2 := own_setCell (i := 3) hown1 hblk1 (by decide) (.int .i64 ((k : Int) + 1))
          have hblk1s : Blk (w1.setCell ⟨w.heap.size + 1, 3, none⟩ (.int .i64 ((k : Int) + 1))) (w.heap.size + 1) 75 #[.string s, .int .i64 ((i : Int) + 3), .slice va l.length vc, .int .i64 ((k : Int) + 1)] := hblk1.set_ 3 _
          have hflt1s := hflt1.far (p := ⟨w.heap.size + 1, 3, none⟩) (by simp) (.int .i64 ((k : Int) + 1))
          have hbel1s := hbel1.setCell (p := ⟨w.heap.size + 1, 3, none⟩) (by simp) (.int .i64 ((k : Int) + 1))
          have B := Lib.hid (And.intro hblk1s (And.intro hflt1s hbel1s))
          have hw1 : w.heap.size + 1 < w1.heap.size := hblk1.lt
          clear hblk1 hg1 hflt1 hbel1 hblk1s hflt1s hbel1s hown1
          go_wp2_with (at_builtin; refine wpList_append_own _ rfl _ _ 63 rfl w.heap.size 5 i0 (.int .u8 0) 1 1 Tryd.underlying63 hi hz0 hz1 hz2 rfl (by decide) _ _ _ rfl (hown2.alloc _) ⟨w1.heap.size, 0, none⟩ 1 1 [.int .u8 ((escV b c).toNat : Int)] rfl rfl ?c1 ?c2 ?c3 ?c4 ?c5 ?_)
          case c1 => exact one_new (by simp) _ _
          case c2 => exact one_int _ _
          case c3 => unfold maxLen; omega
          case c4 => omega
          case c5 => simp; omega
          intro v' w2 hown' hgrow _
          obtain ⟨vb, vd, rfl⟩ := own_slice hown'
          have ha1 := Blk.alloc B.out.1 (.cells #[.int .u8 ((escV b c).toNat : Int)] 5)
          have ha2 := Blk.alloc B.out.2.1 (.cells #[.int .u8 ((escV b c).toNat : Int)] 5)
          have hblk2 := ha1.grown hgrow (own_blk_ne (hown2.alloc _) ha1 (by decide))
          have hflt2 := ha2.grown hgrow (own_blk_ne (hown2.alloc _) ha2 (by decide))
          have hbel2 := ((B.out.2.2).alloc (by simp; omega) (.cells #[.int .u8 ((escV b c).toNat : Int)] 5)).grown hgrow (by simp; omega) (fun k hk => (hown2.lt k hk).1)
          have k2 := hblk2.cell' (i := 2) (v := .slice va l.length vc) rfl
          have kf := hblk2.frozen 2
          have D := Lib.hid (And.intro hblk2 (And.intro hflt2 (And.intro hbel2 hown')))
          clear hblk2 hflt2 hbel2 hown'
          go_wp2
          go_roundg (s.size - (i + 3))
          case measure => have := A2.out.1; have := A2.out.2.1; omega
          case rel =>
            obtain ⟨r1, r2, r3, r4⟩ := D.out
            exact ⟨l ++ [escV b c], i + 3, k + 1, .slice vb (l.length + 1) vd, rfl, A2.out.2.2, r1.set_ 2 _, by rw [Lib.byteCells_append, List.length_append]; exact own_setCell r4 r1 (by decide) _, r2.far (by simp) _, r3.setCell (by simp) _⟩
      · have hlb := hat.2.2.2.2.1
        have hkb := hat.2.2.2.2.2
        have e0 := hblk.cell' (i := 3) (v := .int .i64 (k : Int)) rfl
        have A2 := Lib.hid (And.intro hn (And.intro hc hc))
        clear hn hat hblk hown hflt hbel hc
        go_wp2_with (go_at_call 63; refine (pmore_yes s _ i _ hlt (by exact h0) (by exact h1)).mono ?_; rintro e w' ⟨rfl, nq0, rfl⟩)
        refine (pnext_plain s _ i _ _ _ hs hlt A2.out.2.1 (by exact A.out.2.1) rfl rfl).mono ?_
        rintro e w1 ⟨rfl, hblk1, hg1⟩
        have hblk1 : Blk w1 (w.heap.size + 1) 75 #[.string s, .int .i64 ((i : Int) + 1), .slice va l.length vc, .int .i64 (k : Int)] := hblk1
        have hown1 := own_grown (own_drewN A.out.2.2.1 nq0) (A.out.2.1.drewN nq0) (by decide) hg1
        have hflt1 := (A.out.2.2.2.1.drewN nq0).grown hg1 (by simp)
        have hbel1 := (below_drewN A.out.2.2.2.2 nq0).grown hg1 (by have := hflt1.lt; have := A.out.2.2.2.1.lt; simp; omega) (by simp)
        have c2 := hblk1.cell' (i := 2) (v := .slice va l.length vc) rfl
        have c3 := hblk1.cell' (i := 3) (v := .int .i64 (k : Int)) rfl
        have fz3 := hblk1.frozen 3
        have B := Lib.hid (And.intro hblk1 (And.intro hflt1 hbel1))
        have hw1 : w.heap.size + 1 < w1.heap.size := hblk1.lt
        clear hblk1 hg1 hflt1 hbel1
        go_wp2_with (at_builtin; refine wpList_append_own _ rfl _ _ 63 rfl w.heap.size 5 i0 (.int .u8 0) 1 1 Tryd.underlying63 hi hz0 hz1 hz2 rfl (by decide) _ _ _ rfl (hown1.alloc _) ⟨w1.heap.size, 0, none⟩ 1 1 [.int .u8 (s[i].toNat : Int)] rfl rfl ?c1 ?c2 ?c3 ?c4 ?c5 ?_)
        case c1 => exact one_new (by simp) _ _
        case c2 => exact one_int _ _
        case c3 => unfold maxLen; omega
        case c4 => omega
        case c5 => simp; omega
        intro v' w2 hown' hgrow _
        obtain ⟨vb, vd, rfl⟩ := own_slice hown'
        have ha1 := Blk.alloc B.out.1 (.cells #[.int .u8 (s[i].toNat : Int)] 5)
        have ha2 := Blk.alloc B.out.2.1 (.cells #[.int .u8 (s[i].toNat : Int)] 5)
        have hblk2 := ha1.grown hgrow (own_blk_ne (hown1.alloc _) ha1 (by decide))
        have hflt2 := ha2.grown hgrow (own_blk_ne (hown1.alloc _) ha2 (by decide))
        have hbel2 := ((B.out.2.2).alloc (by omega) (.cells #[.int .u8 (s[i].toNat : Int)] 5)).grown hgrow (by simp; omega) (fun k hk => (hown1.lt k hk).1)
        have k2 := hblk2.cell' (i := 2) (v := .slice va l.length vc) rfl
        have kf := hblk2.frozen 2
        have D := Lib.hid (And.intro hblk2 (And.intro hflt2 (And.intro hbel2 hown')))
        clear hblk2 hflt2 hbel2 hown'
        go_wp2
        go_roundg (s.size - (i + 1))
        case measure => have := A2.out.1; omega
        case rel =>
          obtain ⟨r1, r2, r3, r4⟩ := D.out
          exact ⟨l ++ [s[i]], i + 1, k, .slice vb (l.length + 1) vd, rfl, readAt_plain A.out.1 hlt A2.out.2.1, r1.set_ 2 _, by rw [Lib.byteCells_append, List.length_append]; exact own_setCell r4 r1 (by decide) _, r2.far (by simp) _, r3.setCell (by simp) _⟩
    · clear hn hat hblk hown hflt hbel
      go_wp2_with (go_at_call 63; refine (pmore_no s _ i _ hlt (by exact h0) (by exact h1)).mono ?_; rintro e w' ⟨rfl, nq, rfl⟩)
      rw [Exit.noGoto_ret]
      refine bodyPost_ret (v := .tuple #[.pointer (some ⟨w.heap.size + 1, 0, none⟩), .agg #[.int .i64 0, .int .i64 0]]) (by simp [results, Tryd.results45, go_sem, d0, d1]) rfl ?_
      obtain ⟨hat, hblk, hown, hflt, hbel⟩ := A.out
      exact readPost_mk (readAt_end hat (by rw [drop_end s i (by omega), scan_nil])) (.inl ⟨rfl, rfl, by have := hat.1; omega⟩) (((hblk.drewN _).far (by simp) _).far (by simp) _)
        (own_setCell (own_setCell (own_drewN hown _) (hflt.drewN _) (by decide) _) ((hflt.drewN _).set_ 0 _) (by decide) _) (((below_drewN hbel _).setCell (by simp) _).setCell (by simp) _)
end Go.Proofs.YtfbkbnojbbpopaaDoor
