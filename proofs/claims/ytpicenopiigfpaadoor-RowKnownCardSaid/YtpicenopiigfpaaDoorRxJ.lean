/-
  row.Number and the reference's Number, walked; conditions: the two sentinels hold interface values, the table of powers lies as it is laid, a string of at most 1000000 bytes.
-/
import Derived.Test.YtpicenopiigfpaaDoorRxI
import Derived.Test.YtpicenopiigfpaaDoorRwE
import Derived.Test.YtpicenopiigfpaaDoorByt
import Derived.Deep.LoopGhost
namespace Go.Proofs.YtpicenopiigfpaaDoor
open Go.RowKit Go.Sort
set_option linter.unusedVariables false
set_option linter.unusedSimpArgs false

/-- What the numbers ask of the world. -/
structure NumOk (w : World) : Prop where
  e0 : ErrV w 0
  e1 : ErrV w 1
  tab : Lib.TabIs Tryd.prog w "internal/strconv.uint64pow10" .u64 Lib.pow10Tab
  gl : ∀ g, Tryd.prog.globalNamed "internal/strconv.uint64pow10" = some g → g < w.heap.size
theorem NumOk.below {w w' : World} (h : NumOk w) (hb : Below w.heap.size w w') : NumOk w' := by
  refine ⟨h.e0.below hb h.e0.lt, h.e1.below hb h.e1.lt, ?_, fun g hg => Nat.lt_of_lt_of_le (h.gl g hg) hb.size⟩
  have := h.tab
  unfold Lib.TabIs at this ⊢
  rw [← this]
  unfold World.var?
  cases e : Tryd.prog.globalNamed "internal/strconv.uint64pow10" with
  | none => rfl
  | some g =>
    simp only [Option.bind_some]
    rw [hb.block g (h.gl g e)]
theorem trim_eq (s : ByteArray) : (⟨(Lib.trimPrefix s.data.toList (⟨#[45]⟩ : ByteArray).data.toList).toArray⟩ : ByteArray) = mkB (trimM s.data.toList) := by
  show mkB _ = mkB _
  congr 1
  unfold Lib.trimPrefix trimM Lib.hasPrefix
  cases s.data.toList with
  | nil => rfl
  | cons a t =>
    show (if (List.isPrefixOf [45] (a :: t)) = true then t else a :: t) = _
    by_cases h : a = 45
    · subst h; simp
    · simp [h, Ne.symm h]
def numV (r : Int × Int) : Value := .tuple #[.int .i64 r.1, .int .i64 r.2]
theorem grow_below {w : World} (k : Nat) (os : Array Obj) : Below w.heap.size w (grow (w.drewN k) os) :=
  ⟨rfl, rfl, rfl, by show w.heap.size ≤ (w.heap ++ os).size; simp, fun j hj => by show (w.heap ++ os)[j]? = w.heap[j]?; exact Array.getElem?_append_left hj⟩
theorem atoi_bound {l : List UInt8} {v : Int} (h : Lib.atoiAll l = .ok v) : -9223372036854775808 ≤ v ∧ v ≤ 9223372036854775807 := by
  unfold Lib.atoiAll at h
  cases l with
  | nil => cases h
  | cons c r =>
    dsimp only at h
    split at h
    · cases h
    · cases h
    · rename_i u _
      split at h
      · cases h
      · split at h
        · cases h
        · rename_i h1 h2
          injection h with h
          subst h
          split
          · rename_i hc
            have : ¬ 9223372036854775808 < u := fun e => h2 ⟨hc, e⟩
            omega
          · rename_i hc
            have : ¬ 9223372036854775808 ≤ u := fun e => h1 ⟨hc, e⟩
            omega
theorem num_none {l : List UInt8} (h : ∀ v, Lib.atoiAll l = .ok v → Lib.itoa v ≠ l ∨ 9 < (trimM l).length) : numS l = none := by
  cases e : numS l with
  | none => rfl
  | some v =>
    obtain ⟨h1, h2, h3, _⟩ := num_itoa e
    rcases h v h1 with h4 | h4
    · exact absurd h2 h4
    · omega
theorem numR_none {l : List UInt8} {lo hi : Int} (h : numS l = none) : numR l lo hi = (0, 3) := by unfold numR; rw [h]; rfl
theorem bw_below {w w' : World} {t : TypeId} (h : w' = w ∨ ∃ s, w' = Lib.bytesWorld w t s) : Below w.heap.size w w' := by
  rcases h with rfl | ⟨s, rfl⟩
  · exact Below.refl _ _
  · exact Lib.bytesWorld_below _ _ _

set_option maxRecDepth 100000 in
set_option maxHeartbeats 4000000 in
theorem wNumber (s : ByteArray) (lo hi : Int) (hs : s.size ≤ 1000000) (w : World) (hw : NumOk w) :
    Calls Tryd.prog 23 #[.string s, .int .i64 lo, .int .i64 hi] w fun e w' => e = .returned (numV (numR s.data.toList lo hi)) ∧ Below w.heap.size w w' := by
  have htp := Tryd.strings_TrimPrefix s ⟨#[45]⟩ w
  rw [trim_eq] at htp
  have hm : (mkB (trimM s.data.toList)).size = (trimM s.data.toList).length := mkB_size _
  have HW := Lib.hid hw
  clear hw
  cases ha : Lib.atoiAll s.data.toList with
  | ok v =>
    obtain ⟨v0, v1⟩ := atoi_bound ha
    have hat := Tryd.strconv_Atoi_ok s (by omega) v ha w
    by_cases h9 : 9 < (trimM s.data.toList).length
    · have hn := numR_none (lo := lo) (hi := hi) (num_none (l := s.data.toList) (fun _ _ => .inr h9))
      have H := Lib.hid (And.intro htp (And.intro hat hn))
      have h9' : (9 : Int) < (trimM s.data.toList).length := by omega
      clear htp hat hn ha
      generalize trimM s.data.toList = d at *
      go_enter Tryd.func23, Tryd.ntmps23
      go_wp2_with (fail)
      refine H.out.1.mono ?_
      rintro e W1 ⟨rfl, rfl⟩
      go_wp2_with (fail)
      refine H.out.2.1.mono ?_
      rintro e W2 ⟨rfl, hb⟩
      have B := Lib.hid (bw_below hb)
      clear hb
      go_wp2_with (fail)
      go_ret2
      exact ⟨by rw [H.out.2.2]; rfl, B.out⟩
    · have h9' : ¬ (9 : Int) < (trimM s.data.toList).length := by omega
      have hit := fun W htab => Tryd.strconv_Itoa v v0 v1 W htab
      by_cases he : Lib.itoa v = s.data.toList
      · have hn : numS s.data.toList = some v := by
          have := itoa_num v (by rw [he]; omega)
          rw [he] at this; exact this
        have hss : (⟨(Lib.itoa v).toArray⟩ : ByteArray) = s := by rw [he]
        rw [hss] at hit
        have hr : numR s.data.toList lo hi = if v < lo ∨ hi < v then (0, 2) else (v, 0) := by unfold numR; rw [hn]; rfl
        have H := Lib.hid (And.intro htp (And.intro hat (And.intro hit hr)))
        clear htp hat hit hr ha hn he hss
        generalize trimM s.data.toList = d at *
        have hway : v < lo ∧ (if v < lo ∨ hi < v then ((0 : Int), (2 : Int)) else (v, 0)) = (0, 2) ∨ ¬ v < lo ∧ hi < v ∧ (if v < lo ∨ hi < v then ((0 : Int), (2 : Int)) else (v, 0)) = (0, 2) ∨ ¬ v < lo ∧ ¬ hi < v ∧ (if v < lo ∨ hi < v then ((0 : Int), (2 : Int)) else (v, 0)) = (v, 0) := by
          by_cases a : v < lo
          · exact .inl ⟨a, by rw [if_pos (.inl a)]⟩
          · by_cases b : hi < v
            · exact .inr (.inl ⟨a, b, by rw [if_pos (.inr b)]⟩)
            · exact .inr (.inr ⟨a, b, by rw [if_neg (by rintro (h | h); exact a h; exact b h)]⟩)
        rcases hway with ⟨a, hx⟩ | ⟨a, b, hx⟩ | ⟨a, b, hx⟩
        all_goals
          have HX := Lib.hid hx
          clear hx
          go_enter Tryd.func23, Tryd.ntmps23
          go_wp2_with (fail)
          refine H.out.1.mono ?_
          rintro e W1 ⟨rfl, rfl⟩
          go_wp2_with (fail)
          refine H.out.2.1.mono ?_
          rintro e W2 ⟨rfl, hb⟩
          have B := Lib.hid (bw_below hb)
          clear hb
          go_wp2_with (fail)
          refine (H.out.2.2.1 _ (HW.out.below B.out).tab).mono ?_
          rintro e W3 ⟨rfl, q, os, rfl⟩
          go_wp2_with (fail)
          go_ret2
          exact ⟨by rw [H.out.2.2.2, HX.out]; try rfl, gr_call B.out (grow_below _ _)⟩
      · have hn := numR_none (lo := lo) (hi := hi) (num_none (l := s.data.toList) (fun u hu => .inl (by
          rw [ha] at hu
          injection hu with hu
          rw [← hu]; exact he)))
        have hne : ((⟨(Lib.itoa v).toArray⟩ : ByteArray).toList == s.toList) = false := by
          rw [str_beq, decide_eq_false]
          intro e
          refine he ?_
          have := congrArg (fun x : ByteArray => x.data.toList) e
          simpa using this
        obtain ⟨x, hx⟩ : ∃ x, x = (⟨(Lib.itoa v).toArray⟩ : ByteArray) := ⟨_, rfl⟩
        rw [← hx] at hit hne
        have H := Lib.hid (And.intro htp (And.intro hat (And.intro hit hn)))
        clear htp hat hit hn ha he hx
        generalize trimM s.data.toList = d at *
        go_enter Tryd.func23, Tryd.ntmps23
        go_wp2_with (fail)
        refine H.out.1.mono ?_
        rintro e W1 ⟨rfl, rfl⟩
        go_wp2_with (fail)
        refine H.out.2.1.mono ?_
        rintro e W2 ⟨rfl, hb⟩
        have B := Lib.hid (bw_below hb)
        clear hb
        go_wp2_with (fail)
        refine (H.out.2.2.1 _ (HW.out.below B.out).tab).mono ?_
        rintro e W3 ⟨rfl, q, os, rfl⟩
        go_wp2_with (fail)
        go_ret2
        exact ⟨by rw [H.out.2.2.2]; rfl, gr_call B.out (grow_below _ _)⟩
  | «syntax» =>
    have hn := numR_none (lo := lo) (hi := hi) (num_none (l := s.data.toList) (fun v h => by rw [ha] at h; cases h))
    obtain ⟨ev, hev1, hev2⟩ := HW.out.e0
    have hat := Tryd.strconv_Atoi_syntax s (by omega) ha ev w hev1 hev2
    have H := Lib.hid (And.intro htp (And.intro hat hn))
    clear htp hat hn ha hev1 hev2
    generalize trimM s.data.toList = d at *
    go_enter Tryd.func23, Tryd.ntmps23
    go_wp2_with (fail)
    refine H.out.1.mono ?_
    rintro e W1 ⟨rfl, rfl⟩
    go_wp2_with (fail)
    refine H.out.2.1.mono ?_
    rintro e W2 ⟨N, rfl, _, _, hb⟩
    have B := Lib.hid hb
    clear hb
    go_wp2_with (fail)
    go_ret2
    exact ⟨by rw [H.out.2.2]; rfl, B.out⟩
  | range =>
    have hn := numR_none (lo := lo) (hi := hi) (num_none (l := s.data.toList) (fun v h => by rw [ha] at h; cases h))
    obtain ⟨ev, hev1, hev2⟩ := HW.out.e1
    have hat := Tryd.strconv_Atoi_range s (by omega) ha ev w hev1 hev2
    obtain ⟨x, hx⟩ : ∃ x, x = Lib.atoiSat s.data.toList := ⟨_, rfl⟩
    rw [← hx] at hat
    have H := Lib.hid (And.intro htp (And.intro hat hn))
    clear htp hat hn ha hev1 hev2 hx
    generalize trimM s.data.toList = d at *
    go_enter Tryd.func23, Tryd.ntmps23
    go_wp2_with (fail)
    refine H.out.1.mono ?_
    rintro e W1 ⟨rfl, rfl⟩
    go_wp2_with (fail)
    refine H.out.2.1.mono ?_
    rintro e W2 ⟨N, rfl, _, _, hb⟩
    have B := Lib.hid hb
    clear hb
    go_wp2_with (fail)
    go_ret2
    exact ⟨by rw [H.out.2.2]; rfl, B.out⟩
end Go.Proofs.YtpicenopiigfpaaDoor
