/-
  The reference of rows, sixth part: Rows; condition: strings of at most 100000000 bytes.
-/
import Derived.Test.YtpicenopiigfpaaDoorRwT
import Derived.Test.YtpicenopiigfpaaDoorRwL
namespace Go.Proofs.YtpicenopiigfpaaDoor
open Go.RowKit
set_option linter.unusedVariables false
set_option linter.unusedSimpArgs false

/-- The lines that are left. -/
def remL (s : ByteArray) (k : Nat) : List (List UInt8) := if k ≤ s.size then splitL 10 (s.data.toList.drop k) else []
/-- How far Rows has come. -/
def RsAt (s : ByteArray) (rs : List Rw) (k : Nat) : Prop := k ≤ s.size + 1 ∧ rs.length ≤ k ∧ rowsF 0 (splitL 10 s.data.toList) = preR rs (rowsF k (remL s k))
theorem RsAt.start (s : ByteArray) : RsAt s [] 0 := by
  refine ⟨Nat.zero_le _, Nat.le_refl _, ?_⟩
  rw [preR_nil]; unfold remL; rw [if_pos (Nat.zero_le _), List.drop_zero]
theorem RsAt.over {s : ByteArray} {rs : List Rw} {k : Nat} (h : RsAt s rs k) (hk : ¬ k < s.size) : rowsF 0 (splitL 10 s.data.toList) = (some rs, 0, 0) := by
  have key : rowsF k (remL s k) = (some [], 0, 0) := by
    unfold remL
    by_cases e : k ≤ s.size
    · rw [if_pos e, drop_end s k (by omega), splitL_none (by simp), rowsF_line (by simp) (lineL_nil k)]; rfl
    · rw [if_neg e]; rfl
  rw [h.2.2, key]
  show (some (rs ++ []), _) = _
  rw [List.append_nil]
/-- The line from k to m. -/
theorem line_at {s : ByteArray} {k m : Nat} (hk : k < s.size) (hkm : k ≤ m) (hm : m ≤ s.size) (hno : (10 : UInt8) ∉ (s.data.toList.drop k).take (m - k)) (he : m = s.size ∨ ∃ h : m < s.size, s[m] = 10) :
    remL s k = (s.extract k m).data.toList :: remL s (m + 1) ∧ (s.extract k m).size = m - k := by
  have hex : (s.extract k m).data.toList = (s.data.toList.drop k).take (m - k) := by rw [Lib.extract_data]
  refine ⟨?_, by rw [ByteArray.size_extract]; omega⟩
  rw [hex]
  unfold remL
  rw [if_pos (by omega)]
  rcases he with he | ⟨h, h10⟩
  · subst he
    rw [if_neg (by omega)]
    have : (s.data.toList.drop k).take (s.size - k) = s.data.toList.drop k := List.take_of_length_le (by rw [List.length_drop, size_data]; exact Nat.le_refl _)
    rw [this] at hno ⊢
    rw [splitL_none hno]
  · rw [if_pos (by omega)]
    have hd : s.data.toList.drop k = (s.data.toList.drop k).take (m - k) ++ 10 :: s.data.toList.drop (m + 1) := by
      conv => lhs; rw [← List.take_append_drop (m - k) (s.data.toList.drop k)]
      rw [List.drop_drop, show k + (m - k) = m by omega, drop_at s m h, h10]
    conv => lhs; rw [hd]
    rw [splitL_hit hno]
theorem take_more {s : ByteArray} {k m : Nat} (hkm : k ≤ m) (hm : m < s.size) (h10 : s[m] ≠ 10) (hno : (10 : UInt8) ∉ (s.data.toList.drop k).take (m - k)) : (10 : UInt8) ∉ (s.data.toList.drop k).take (m + 1 - k) := by
  have e : (s.data.toList.drop k).take (m + 1 - k) = (s.data.toList.drop k).take (m - k) ++ [s[m]] := by
    rw [show m + 1 - k = m - k + 1 by omega, List.take_add_one]
    congr 1
    rw [List.getElem?_drop, show k + (m - k) = m by omega, get_drop hm]; rfl
  rw [e]
  simp only [List.mem_append, List.mem_singleton, not_or]
  exact ⟨hno, fun h => h10 h.symm⟩
theorem RsAt.long {s : ByteArray} {rs : List Rw} {k : Nat} {p : List UInt8} {ps : List (List UInt8)} (h : RsAt s rs k) (hr : remL s k = p :: ps) (hp : 1000 < p.length) : rowsF 0 (splitL 10 s.data.toList) = (none, 4, (k : Int)) := by
  rw [h.2.2, hr, rowsF_long hp]; rfl
theorem RsAt.bad {s : ByteArray} {rs : List Rw} {k e : Nat} {p : List UInt8} {ps : List (List UInt8)} (h : RsAt s rs k) (hr : remL s k = p :: ps) (hp : ¬ 1000 < p.length) (hl : lineL k p = (none, e)) : rowsF 0 (splitL 10 s.data.toList) = (none, 3, (e : Int)) := by
  rw [h.2.2, hr, rowsF_bad hp hl]; rfl
theorem RsAt.line {s : ByteArray} {rs : List Rw} {k m e : Nat} {ws : List Wd} {p : List UInt8} (h : RsAt s rs k) (hk : k < s.size) (hkm : k ≤ m) (hm : m ≤ s.size) (hr : remL s k = p :: remL s (m + 1)) (hp : ¬ 1000 < p.length) (hpl : p.length = m - k)
    (hl : lineL k p = (some ws, e)) : RsAt s (rs ++ rowOf k ws) (m + 1) := by
  have hro : (rowOf k ws).length ≤ 1 := by unfold rowOf; split <;> simp
  have h2 := h.2.1
  refine ⟨by omega, by rw [List.length_append]; omega, ?_⟩
  rw [h.2.2, hr, rowsF_line hp hl, preR_pre, hpl, show k + (m - k) + 1 = m + 1 by omega]
/-- The blocks of Rows. -/
def RsSt (w W : World) (rs : List Rw) (v : Value) : Prop := Blk W w.heap.size 26 #[.int .i64 0, .int .i64 0] ∧ OwnRs W w.heap.size v rs ∧ Below w.heap.size w W
theorem RsSt.call {w W W' : World} {rs : List Rw} {v : Value} (h : RsSt w W rs v) (hb : Below W.heap.size W W') : RsSt w W' rs v := ⟨h.1.call hb, h.2.1.below hb, gr_call h.2.2 hb⟩
theorem RsSt.stored {w W : World} {rs : List Rw} {v : Value} (h : RsSt w W rs v) (x y : Value) : OwnRs ((W.setCell ⟨w.heap.size, 0, none⟩ x).setCell ⟨w.heap.size, 1, none⟩ y) w.heap.size v rs ∧ Below w.heap.size w ((W.setCell ⟨w.heap.size, 0, none⟩ x).setCell ⟨w.heap.size, 1, none⟩ y) :=
  ⟨(h.2.1.set_ h.1 (by decide) (by decide) 0 x).set_ (h.1.set_ 0 x) (by decide) (by decide) 1 y, gr_set (gr_set h.2.2 (by simp) _) (by simp) _⟩
/-- One row more. -/
theorem RsSt.push {w W X W2 : World} {rs : List Rw} {v v' vw : Value} {vs : List Value} {r : Rw} (h : RsSt w W rs v) (ho : W.ownsRow w.heap.size 39 2 v rs.length (rowsC rs vs)) (hin : InnerOk W w.heap.size rs vs)
    (hX : Below W.heap.size W X) (hg : X.grownBy W2 v.ownBlock) (hw : X.ownsRow w.heap.size 41 3 vw r.w.length (wdsC r.w))
    (hown : W2.ownsRow w.heap.size 39 2 v' (rs.length + 1) (rowsC rs vs ++ [.int .i64 (r.a : Int), vw])) : RsSt w W2 (rs ++ [r]) v' := by
  have ox := own_below ho hX (Nat.le_refl _)
  have hk : ∀ k t cs, Blk X k t cs → t ≠ 39 → Blk W2 k t cs := fun k t cs hb ht => hb.grown hg (own_blk_ne ox hb (fun e => ht e.symm))
  have hkw : ∀ k cs, Blk X k 41 cs → Blk W2 k 41 cs := fun k cs hb => hk k _ cs hb (by decide)
  refine ⟨hk _ _ _ (h.1.call hX) (by decide), ⟨vs ++ [vw], ?_, InnerOk.snoc (own_blks hw hkw) ((hin.keep (fun k cs hb => hb.call hX)).keep hkw)⟩, (gr_call h.2.2 hX).grown hg (gr_call h.2.2 hX).size (fun q hq => (ox.lt q hq).1)⟩
  rw [rowsC_snoc r vw hin.len, List.length_append]
  exact hown

set_option maxRecDepth 100000 in
set_option maxHeartbeats 4000000 in
theorem rRows (s : ByteArray) (w : World) (hs : s.size ≤ 100000000) :
    Calls Tryd.prog 12 #[.string s] w (RowsP w (rowsR s.data.toList)) := by
  by_cases hlong : 20000 < s.size
  · have h1 : (20000 : Int) < s.size := by omega
    have hr : rowsR s.data.toList = (none, 4, 20000) := by unfold rowsR; rw [size_data, if_pos hlong]
    rw [hr]
    clear hr
    go_enter Tryd.func12, Tryd.ntmps12
    go_wp2_with (fail)
    refine bodyPost_ret (v := .tuple #[.slice none 0 0, .agg #[.int .i64 4, .int .i64 20000]]) (by simp [results, Tryd.results12, go_sem]) rfl ⟨_, rfl, OwnRs.nil _ _, ?_⟩
    first | exact gr_alloc (Below.refl _ _) _ | exact gr_set (gr_set (gr_alloc (Below.refl _ _) _) (by simp) _) (by simp) _
  · obtain ⟨i0, hi, hz0, hz1, hz2⟩ := info_parts infoRow
    have h1 : ¬ (20000 : Int) < s.size := by omega
    have hr : rowsR s.data.toList = rowsF 0 (splitL 10 s.data.toList) := by unfold rowsR; rw [size_data, if_neg hlong]
    rw [hr]
    clear hr hlong
    go_enter Tryd.func12, Tryd.ntmps12
    go_wp2_with (fail)
    go_loopw [4, 5] (fun ov iv wr => ∃ (rs : List Rw) (k : Nat), RsAt s rs k ∧ iv = .int .i64 (k : Int) ∧ RsSt w wr rs ov) (fun _ iv _ => s.size + 1 - (intOf iv).toNat)
    case atStart => exact ⟨[], 0, RsAt.start s, rfl, Blk.new _ _ _, OwnRs.nil _ _, gr_alloc (Below.refl _ _) _⟩
    case round =>
      obtain ⟨rs, k, hat, rfl, hst⟩ := hrel
      obtain ⟨va, vc, rfl⟩ := hst.2.1.slice
      have hks := hat.1
      have hrl := hat.2.1
      have c0 := hst.1.cell' (i := 0) (v := .int .i64 0) rfl
      have c1 := hst.1.cell' (i := 1) (v := .int .i64 0) rfl
      have f0 := hst.1.frozen 0
      have f1 := hst.1.frozen 1
      have z0 := hst.1.lt
      by_cases hlt : k < s.size
      · have hii : (k : Int) < s.size := by omega
        have A := Lib.hid (And.intro hat hst)
        clear hat hst
        go_wp2_with (fail)
        go_loopw [6] (fun iv wx => ∃ m : Nat, k ≤ m ∧ m ≤ s.size ∧ (10 : UInt8) ∉ (s.data.toList.drop k).take (m - k) ∧ iv = .int .i64 (m : Int) ∧ wx = wr) (fun iv _ => s.size - (intOf iv).toNat)
        case atStart => exact ⟨k, Nat.le_refl _, by omega, by simp, rfl, rfl⟩
        case round =>
          obtain ⟨m, hkm, hms, hno, rfl, rfl⟩ := hrel
          have hm0 : (0 : Int) ≤ m := by omega
          have hway : (∃ h : m < s.size, s[m] ≠ 10) ∨ m = s.size ∨ ∃ h : m < s.size, s[m] = 10 := by
            by_cases h : m < s.size
            · by_cases h10 : s[m] = 10
              · exact .inr (.inr ⟨h, h10⟩)
              · exact .inl ⟨h, h10⟩
            · exact .inr (.inl (by omega))
          rcases hway with ⟨h, h10⟩ | he
          · have hii2 : (m : Int) < s.size := by omega
            have hn2 := take_more hkm h h10 hno
            obtain ⟨y, hy⟩ : ∃ y, y = s[m] := ⟨_, rfl⟩
            have hys : s[m] = y := hy.symm
            have hyb := u8_bound y
            rw [hys] at h10
            have hne : ((y.toNat : Int) != 10) = true := by have := u8_ne (n := 10) (by decide) h10; simp; omega
            have N := Lib.hid hn2
            clear hn2 hno hy h10
            go_wp2_with (fail)
            go_roundw
            case rel => exact ⟨m + 1, by omega, by omega, N.out, rfl, trivial⟩
            case measure => simp [intOf]; omega
          · obtain ⟨hl, hsz⟩ := line_at hlt hkm hms hno he
            have hw2 : ¬ (m : Int) < s.size ∨ (m : Int) < s.size ∧ ∃ h : m < s.size, s[m] = 10 := by
              rcases he with h | ⟨h, h10⟩
              · exact .inl (by omega)
              · exact .inr ⟨by omega, h, h10⟩
            obtain ⟨p, hp⟩ : ∃ p, p = s.extract k m := ⟨_, rfl⟩
            rw [← hp] at hl hsz
            have hpl : p.data.toList.length = m - k := by rw [size_data]; exact hsz
            have hps : s.extract k m = p := hp.symm
            have hrw := fun W => rrow p k W (by omega) (by omega)
            have e1 := A.out.1.long hl
            have e2 := fun e => A.out.1.bad (e := e) hl
            have e3 := fun ws e hx => A.out.1.line (ws := ws) (e := e) hlt hkm hms hl hx hpl
            clear hl hno he hp
            by_cases hbig : 1000 < m - k
            · have hb1 : (1000 : Int) < (m : Int) - k := by omega
              have E := Lib.hid (e1 (by omega))
              clear e1 e2 e3 hrw
              rcases hw2 with h3 | ⟨h3, h4, h5⟩
              all_goals
                go_wp2_with (fail)
                refine bodyPost_ret (v := .tuple #[.slice none 0 0, .agg #[.int .i64 4, .int .i64 (k : Int)]]) (by simp [results, Tryd.results12, go_sem, c0, c1, z0]) rfl ?_
                rw [E.out]
                exact ⟨_, rfl, OwnRs.nil _ _, (A.out.2.stored _ _).2⟩
            · have hb1 : ¬ (1000 : Int) < (m : Int) - k := by omega
              have hbn : ¬ 1000 < p.data.toList.length := by omega
              rcases e : lineL k p.data.toList with ⟨_ | ws, x⟩
              · have E := Lib.hid (And.intro (e2 x hbn e) (And.intro e hrw))
                clear e1 e2 e3 hrw e hbn
                rcases hw2 with h3 | ⟨h3, h4, h5⟩
                all_goals
                  go_wp2_with (fail)
                  refine (E.out.2.2 _).mono ?_
                  rw [E.out.2.1]
                  rintro e W1 ⟨rfl, g1⟩
                  have hst := A.out.2.call g1
                  have c0 := hst.1.cell' (i := 0) (v := .int .i64 0) rfl
                  have c1 := hst.1.cell' (i := 1) (v := .int .i64 0) rfl
                  have f0 := hst.1.frozen 0
                  have f1 := hst.1.frozen 1
                  have z0 := hst.1.lt
                  have H := Lib.hid hst
                  clear hst g1
                  go_wp2_with (fail)
                  go_region
                  all_goals
                    go_wp2_with (fail)
                    refine bodyPost_ret (v := .tuple #[.slice none 0 0, .agg #[.int .i64 3, .int .i64 (x : Int)]]) (by simp [results, Tryd.results12, go_sem, c0, c1, z0]) rfl ?_
                    rw [E.out.1]
                    refine ⟨_, rfl, OwnRs.nil _ _, ?_⟩
                    exact gr_drew (gr_alloc (gr_alloc (gr_set (gr_set H.out.2.2 (Nat.le_refl _) _) (Nat.le_refl _) _) _) _)
              · have E := Lib.hid (And.intro (e3 ws x hbn e) (And.intro e hrw))
                clear e1 e2 e3 hrw e hbn
                rcases hw2 with h3 | ⟨h3, h4, h5⟩
                all_goals
                  go_wp2_with (fail)
                  refine (E.out.2.2 _).mono ?_
                  rw [E.out.2.1]
                  rintro e W1 ⟨v, rfl, ho1, g1⟩
                  obtain ⟨vb, vd, rfl⟩ := own_slice ho1
                  have hst := A.out.2.call g1
                  have hz1' := A.out.2.2.2.size
                  have ho2 := own_weaken ho1 hz1'
                  have H := Lib.hid (And.intro hst ho2)
                  clear hst g1 ho1 ho2
                  by_cases hw0 : ws = []
                  · have e0 : ((ws.length : Nat) : Int) = 0 := by rw [hw0]; rfl
                    have er : rowOf k ws = [] := by unfold rowOf; rw [if_pos hw0]
                    have K := Lib.hid er
                    have e00 : ¬ (0 : Int) < (ws.length : Int) := by omega
                    clear er hw0
                    go_wp2_with (fail)
                    go_roundw
                    case rel =>
                      refine ⟨rs, m + 1, ?_, rfl, ?_⟩
                      · have := E.out.1
                        rw [K.out, List.append_nil] at this
                        exact this
                      · exact H.out.1.call (gr_alloc (gr_alloc (Below.refl _ _) _) _)
                    case measure => simp [intOf]; omega
                  · have e0 : (0 : Int) < (ws.length : Int) := by have := List.length_pos_iff.2 hw0; omega
                    have er : rowOf k ws = [⟨k, ws⟩] := by unfold rowOf; rw [if_neg hw0]
                    obtain ⟨vs, hov, hin⟩ := H.out.1.2.1
                    have K := Lib.hid (And.intro er (And.intro hov hin))
                    clear er hw0 hov hin
                    go_wp2_with (at_builtin; refine wpList_append_own _ rfl _ _ 23 rfl w.heap.size 39 i0 _ 2 32 Tryd.underlying23 hi hz0 hz1 hz2 rfl (by decide) _ _ _ rfl (((K.out.2.1.alloc _).alloc _).alloc _) ⟨W1.heap.size + 2, 0, none⟩ 1 1 [.int .i64 (k : Int), .slice vb ws.length vd] rfl rfl ?c1 ?c2 ?c3 ?c4 ?c5 ?_)
                    case c1 => exact many_new (by simp) _ _
                    case c2 => intro u hu; simp at hu; rcases hu with rfl | rfl <;> rfl
                    case c3 => unfold maxLen; omega
                    case c4 => omega
                    case c5 => simp; have := H.out.1.2.2.size; omega
                    intro v' W2 hown' hgrow _
                    obtain ⟨vf, vg, rfl⟩ := own_slice hown'
                    have hst2 := H.out.1.push (r := ⟨k, ws⟩) K.out.2.1 K.out.2.2 (gr_alloc (gr_alloc (gr_alloc (Below.refl _ _) _) _) _) hgrow (((H.out.2.alloc _).alloc _).alloc _) hown'
                    have S := Lib.hid hst2
                    clear hst2 hown' hgrow
                    go_wp2_with (fail)
                    go_roundw
                    case rel =>
                      refine ⟨rs ++ [⟨k, ws⟩], m + 1, ?_, rfl, S.out⟩
                      have := E.out.1
                      rw [K.out.1] at this
                      exact this
                    case measure => simp [intOf]; omega
      · have hr := hat.over hlt
        have hii : ¬ (k : Int) < s.size := by omega
        have A := Lib.hid (And.intro hr hst)
        clear hat hst hr
        go_wp2_with (fail)
        refine bodyPost_ret (v := .tuple #[.slice va rs.length vc, .agg #[.int .i64 0, .int .i64 0]]) (by simp [results, Tryd.results12, go_sem, c0, c1, z0]) rfl ?_
        rw [A.out.1]
        exact ⟨_, rfl, (A.out.2.stored _ _).1, (A.out.2.stored _ _).2⟩
end Go.Proofs.YtpicenopiigfpaaDoor
