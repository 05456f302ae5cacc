/-
  config.Check, walked; names of modes and kinds; paths; conditions: numbers are ints; how many segments there are.
  row.Number and the reference's Number, walked; conditions: the two sentinels hold interface values, the table of powers lies as it is laid, a string of at most 1000000 bytes.
  Arguments that are lists of elements of so many cells: opened to their cells; the fields of a struct; no condition.
  Which, of row and of its reference, walked; a list of names that came in; condition: how many names there are.
  The cursor of config's reader, walked: next, left, fails, number, which; conditions: sizes.
  The table of rows' shapes: made, and looked up; condition: the word's size.
-/
import Derived.Lib.IndexLaws
import Derived.Deep.LoopGhost
import Derived.Deep.Slices
import Derived.Deep.Fields
import Derived.ChangeSame
import Derived.ChangeArms
import Derived.Lib.SmallJoins
import Derived.Lib.SlicesS
import Derived.BigQuiet
import Derived.StringKeys
import Derived.Maps.Keyed
import Derived.WalkKit
import Derived.Test.YthpcbaamkeiffaaGreatDoorMCfD
import Derived.Test.YthpcbaamkeiffaaGreatDoorMFtE
import Derived.Test.YthpcbaamkeiffaaGreatDoorMFlgA
import Derived.Test.YthpcbaamkeiffaaGreatDoorMInw
import Derived.Test.YthpcbaamkeiffaaGreatDoorMRwFn
import Derived.Test.YthpcbaamkeiffaaGreatDoorMRwQt
import Derived.Test.YthpcbaamkeiffaaGreatDoorMRxA
import Derived.Test.YthpcbaamkeiffaaGreatDoorMShelf
namespace Go.Proofs.YthpcbaamkeiffaaGreatDoor
open Go.RowKit Go.Shelf
set_option linter.unusedVariables false
set_option linter.unusedSimpArgs false

set_option maxRecDepth 100000 in
set_option maxHeartbeats 1000000 in
theorem modes_code (w : World) : Calls Tryz.prog 36 #[] w fun e W => e = .returned (.slice (some ⟨w.heap.size, 0, none⟩) 3 3) ∧ W = w.alloc (.cells #[.string ⟨#[97, 108, 111, 110, 101]⟩, .string ⟨#[98, 101, 102, 111, 114, 101]⟩, .string ⟨#[97, 102, 116, 101, 114]⟩] 9) := by
  go_enter Tryz.func36, Tryz.ntmps36
  go_wp2_with (fail)
  go_ret
  exact ⟨rfl, rfl⟩
set_option maxRecDepth 100000 in
set_option maxHeartbeats 1000000 in
theorem kinds_code (w : World) : Calls Tryz.prog 39 #[] w fun e W => e = .returned (.slice (some ⟨w.heap.size, 0, none⟩) 4 4) ∧ W = w.alloc (.cells #[.string ⟨#[102, 105, 120, 101, 100]⟩, .string ⟨#[101, 99, 104, 111]⟩, .string ⟨#[102, 105, 108, 101]⟩, .string ⟨#[98, 111, 100, 121]⟩] 9) := by
  go_enter Tryz.func39, Tryz.ntmps39
  go_wp2_with (fail)
  go_ret
  exact ⟨rfl, rfl⟩

/-! Segments. -/
theorem empty_iff (s : ByteArray) : s.toList.isEmpty = decide (s.size = 0) := by
  rw [Lib.toList_data, Bool.eq_iff_iff, List.isEmpty_iff, decide_eq_true_eq, ← List.length_eq_zero_iff, size_data]
theorem indexByte_mem (l : List UInt8) (c : UInt8) : 0 ≤ Lib.indexByte l c ↔ c ∈ l := by
  constructor
  · intro h
    obtain ⟨o, ho⟩ : ∃ o : Nat, Lib.indexByte l c = o := ⟨(Lib.indexByte l c).toNat, by omega⟩
    exact List.mem_of_getElem? (Lib.indexByte_some ho).1
  · intro h
    have h1 := Lib.indexByte_ge l c
    by_cases h2 : Lib.indexByte l c = -1
    · obtain ⟨k, hk⟩ := List.getElem?_of_mem h
      exact absurd hk (Lib.indexByte_none h2 k)
    · omega
set_option maxRecDepth 100000 in
set_option maxHeartbeats 1000000 in
theorem seg_code (s : ByteArray) (w : World) : Calls Tryz.prog 65 #[.string s] w fun e W => e = .returned (.bool (badSeg s)) ∧ W = w := by
  have hx := Tryz.strings_Contains_one s 47 w
  by_cases h : s.size = 0
  · have hE : s.toList.isEmpty = true := by rw [empty_iff]; exact decide_eq_true h
    have hb : badSeg s = true := by unfold badSeg; rw [decide_eq_true h]; rfl
    rw [hb]
    clear hb h
    go_enter Tryz.func65, Tryz.ntmps65
    go_wp2_with (fail)
    all_goals first | (go_ret; exact ⟨rfl, rfl⟩) | (exfalso; revert hE; simp_all)
  · have hE : s.toList.isEmpty = false := by rw [empty_iff]; exact decide_eq_false h
    have hb : badSeg s = decide (0 ≤ Lib.indexByte s.data.toList 47) := by
      unfold badSeg
      rw [decide_eq_false h, Bool.false_or, decide_eq_decide]
      exact (indexByte_mem _ _).symm
    rw [hb]
    clear hb h
    go_enter Tryz.func65, Tryz.ntmps65
    go_wp2_with (fail)
    refine hx.mono ?_
    rintro e W ⟨rfl, rfl⟩
    go_wp2_with (fail)
    go_ret
    exact ⟨rfl, rfl⟩
theorem any_take (p : ByteArray → Bool) {l : List ByteArray} {k : Nat} {x : ByteArray} (h : l[k]? = some x) : (l.take (k + 1)).any p = ((l.take k).any p || p x) := by
  rw [List.take_add_one, h, List.any_append]; simp
set_option maxRecDepth 100000 in
set_option maxHeartbeats 1000000 in
theorem segIdx_code (l : List ByteArray) (hl : l.length ≤ 1000000000) (v : Value) (w : World) (hv : TextsIn w v l) :
    Calls Tryz.prog 91 #[v, .func (.func 65) #[] #[]] w fun e W => (∃ r : Int, e = .returned (.int .i64 r) ∧ decide (0 ≤ r) = l.any badSeg) ∧ W = w := by
  obtain ⟨A, c, rfl, _, hA⟩ := hv
  obtain ⟨n, hn⟩ : ∃ n, n = l.length := ⟨_, rfl⟩
  have HA := Lib.hid (And.intro hA hn)
  rw [← hn] at hl ⊢
  clear hA hn
  go_enter Tryz.func91, Tryz.ntmps91
  go_wp2_with (fail)
  go_loopw [8] (fun iv wr => ∃ k : Nat, k ≤ n ∧ iv = .int .i64 (k : Int) ∧ (l.take k).any badSeg = false ∧ wr = w) (fun iv _ => n - (intOf iv).toNat)
  case atStart => exact ⟨0, Nat.zero_le _, rfl, rfl, rfl⟩
  case round =>
    obtain ⟨k, hk, rfl, hno, rfl⟩ := hrel
    by_cases hlt : k < n
    · have hii : (k : Int) < n := by omega
      obtain ⟨x, hx⟩ : ∃ x, l[k]? = some x := ⟨_, List.getElem?_eq_getElem (by rw [← HA.out.2]; exact hlt)⟩
      obtain ⟨ab, ao, rfl, hab, c0⟩ := cells_tx HA.out.1 hx
      have hsc := seg_code x wr
      have F := Lib.hid (And.intro hno hx)
      clear hno hx
      go_wp2_with (fail)
      refine hsc.mono ?_
      rintro e W ⟨rfl, rfl⟩
      cases hb : badSeg x with
      | true =>
        clear hsc
        go_wp2_with (fail)
        go_ret
        refine ⟨⟨k, rfl, ?_⟩, rfl⟩
        rw [decide_eq_true (show (0 : Int) ≤ k by omega), eq_comm, List.any_eq_true]
        exact ⟨x, List.mem_of_getElem? F.out.2, hb⟩
      | false =>
        clear hsc
        go_wp2_with (fail)
        go_round
        case measure => show n - (k + 1) < n - k; omega
        case rel => exact ⟨k + 1, by omega, rfl, by rw [any_take badSeg F.out.2, F.out.1, hb]; rfl, by first | rfl | trivial⟩
    · have hke : k = n := by omega
      have hii : ¬ (k : Int) < n := by omega
      have ht : l.take k = l := List.take_of_length_le (by rw [← HA.out.2]; omega)
      rw [ht] at hno
      have F := Lib.hid hno
      clear hno ht
      go_wp2_with (fail)
      go_ret
      exact ⟨⟨-1, rfl, by rw [F.out]; rfl⟩, rfl⟩
set_option maxRecDepth 100000 in
set_option maxHeartbeats 1000000 in
theorem segAny_code (l : List ByteArray) (hl : l.length ≤ 1000000000) (v : Value) (w : World) (hv : TextsIn w v l) :
    Calls Tryz.prog 64 #[v, .func (.func 65) #[] #[]] w fun e W => e = .returned (.bool (l.any badSeg)) ∧ W = w := by
  have hx := segIdx_code l hl v w hv
  clear hv
  go_enter Tryz.func64, Tryz.ntmps64
  go_wp2_with (fail)
  refine hx.mono ?_
  rintro e W ⟨⟨r, rfl, hr⟩, rfl⟩
  clear hx
  cases hb : l.any badSeg with
  | true =>
    rw [hb] at hr
    have hr2 : 0 ≤ r := of_decide_eq_true hr
    go_wp2_with (fail)
    go_ret
    exact ⟨by rw [hb]; rfl, rfl⟩
  | false =>
    rw [hb] at hr
    have hr2 : ¬ 0 ≤ r := of_decide_eq_false hr
    go_wp2_with (fail)
    go_ret
    exact ⟨by rw [hb]; rfl, rfl⟩
set_option maxRecDepth 100000 in
set_option maxHeartbeats 1000000 in
theorem path_code (l : List ByteArray) (hl : l.length ≤ 1000000) (hj : (Lib.join (l.map (·.data.toList)) [47]).length ≤ 100000000) (v : Value) (w : World) (hv : TextsIn w v l) (hcap : ∀ a n c, v = .slice a n c → n ≤ c) :
    Calls Tryz.prog 38 #[v] w fun e W => e = .returned (.string (pathB l)) ∧ Below w.heap.size w W := by
  obtain ⟨A, c, rfl, hok, hA⟩ := hv
  by_cases h0 : l = []
  · subst h0
    go_enter Tryz.func38, Tryz.ntmps38
    go_wp2_with (fail)
    go_ret
    exact ⟨rfl, Below.refl _ _⟩
  · have hp := List.length_pos_iff.2 h0
    obtain ⟨b, off, rfl, hb, hc⟩ := hA hp
    have hjn := Tryz.strings_Join b off c l ⟨#[47]⟩ w (fun j x hx => by
      have h1 := hc j 0 (List.getElem?_eq_some_iff.1 hx).1 (by decide)
      rw [show txAt l j 0 = .string x by unfold txAt; rw [hx]] at h1
      simpa using h1) hb (by omega) (hcap _ _ _ rfl) (by simpa using Nat.le_trans hj (by decide))
    have hpb : pathB l = slashB ++ ⟨(Lib.join (l.map (·.data.toList)) [47]).toArray⟩ := by unfold pathB; rw [if_neg h0]
    rw [hpb]
    obtain ⟨J, hJ⟩ : ∃ J, J = Lib.join (l.map (·.data.toList)) [47] := ⟨_, rfl⟩
    have hjn : Calls Tryz.prog 70 #[.slice (some ⟨b, off, none⟩) l.length c, .string ⟨#[47]⟩] w fun e w' => e = .returned (.string ⟨J.toArray⟩) ∧ Below w.heap.size w w' := by rw [hJ]; exact hjn
    rw [← hJ] at hj ⊢
    have hjs : (⟨J.toArray⟩ : ByteArray).size = J.length := by show J.toArray.size = _; simp
    obtain ⟨n, hn⟩ : ∃ n, n = l.length := ⟨_, rfl⟩
    have hn0 : ((n : Int) == 0) = false := beq_eq_false_iff_ne.2 (by omega)
    rw [← hn] at hjn ⊢
    clear hJ hpb hc hok h0 hA hcap hn
    go_enter Tryz.func38, Tryz.ntmps38
    go_wp2_with (fail)
    refine hjn.mono ?_
    rintro e W ⟨rfl, hb1⟩
    have H := Lib.hid hb1
    clear hb1 hjn
    go_wp2_with (fail)
    go_ret
    exact ⟨rfl, H.out⟩
end Go.Proofs.YthpcbaamkeiffaaGreatDoor
namespace Go.Proofs.YthpcbaamkeiffaaGreatDoor
open Go.RowKit Go.Sort
set_option linter.unusedVariables false
set_option linter.unusedSimpArgs false

/-- What the numbers ask of the world. -/
structure NumOk (w : World) : Prop where
  e0 : ErrV w 7
  e1 : ErrV w 8
  tab : Lib.TabIs Tryz.prog w "internal/strconv.uint64pow10" .u64 Lib.pow10Tab
  gl : ∀ g, Tryz.prog.globalNamed "internal/strconv.uint64pow10" = some g → g < w.heap.size
theorem NumOk.below {w w' : World} (h : NumOk w) (hb : Below w.heap.size w w') : NumOk w' := by
  refine ⟨h.e0.below hb h.e0.lt, h.e1.below hb h.e1.lt, ?_, fun g hg => Nat.lt_of_lt_of_le (h.gl g hg) hb.size⟩
  have := h.tab
  unfold Lib.TabIs at this ⊢
  rw [← this]
  unfold World.var?
  cases e : Tryz.prog.globalNamed "internal/strconv.uint64pow10" with
  | none => rfl
  | some g =>
    simp only [Option.bind_some]
    rw [hb.block g (h.gl g e)]
theorem trim_eq (s : ByteArray) : (⟨(Lib.trimPrefix s.data.toList (⟨#[45]⟩ : ByteArray).data.toList).toArray⟩ : ByteArray) = mkB (trimM s.data.toList) := by
  show mkB _ = mkB _
  congr 1
  unfold Lib.trimPrefix trimM Lib.hasPrefix
  cases s.data.toList with
  | nil => rfl
  | cons a t =>
    show (if (List.isPrefixOf [45] (a :: t)) = true then t else a :: t) = _
    by_cases h : a = 45
    · subst h; simp
    · simp [h, Ne.symm h]
def numV (r : Int × Int) : Value := .tuple #[.int .i64 r.1, .int .i64 r.2]
theorem grow_below {w : World} (k : Nat) (os : Array Obj) : Below w.heap.size w (grow (w.drewN k) os) :=
  ⟨rfl, rfl, rfl, by show w.heap.size ≤ (w.heap ++ os).size; simp, fun j hj => by show (w.heap ++ os)[j]? = w.heap[j]?; exact Array.getElem?_append_left hj⟩
theorem atoi_bound {l : List UInt8} {v : Int} (h : Lib.atoiAll l = .ok v) : -9223372036854775808 ≤ v ∧ v ≤ 9223372036854775807 := by
  unfold Lib.atoiAll at h
  cases l with
  | nil => cases h
  | cons c r =>
    dsimp only at h
    split at h
    · cases h
    · cases h
    · rename_i u _
      split at h
      · cases h
      · split at h
        · cases h
        · rename_i h1 h2
          injection h with h
          subst h
          split
          · rename_i hc
            have : ¬ 9223372036854775808 < u := fun e => h2 ⟨hc, e⟩
            omega
          · rename_i hc
            have : ¬ 9223372036854775808 ≤ u := fun e => h1 ⟨hc, e⟩
            omega
theorem num_none {l : List UInt8} (h : ∀ v, Lib.atoiAll l = .ok v → Lib.itoa v ≠ l ∨ 9 < (trimM l).length) : numS l = none := by
  cases e : numS l with
  | none => rfl
  | some v =>
    obtain ⟨h1, h2, h3, _⟩ := num_itoa e
    rcases h v h1 with h4 | h4
    · exact absurd h2 h4
    · omega
theorem numR_none {l : List UInt8} {lo hi : Int} (h : numS l = none) : numR l lo hi = (0, 3) := by unfold numR; rw [h]; rfl
theorem bw_below {w w' : World} {t : TypeId} (h : w' = w ∨ ∃ s, w' = Lib.bytesWorld w t s) : Below w.heap.size w w' := by
  rcases h with rfl | ⟨s, rfl⟩
  · exact Below.refl _ _
  · exact Lib.bytesWorld_below _ _ _

set_option maxRecDepth 100000 in
set_option maxHeartbeats 4000000 in
theorem wNumber (s : ByteArray) (lo hi : Int) (hs : s.size ≤ 1000000) (w : World) (hw : NumOk w) :
    Calls Tryz.prog 150 #[.string s, .int .i64 lo, .int .i64 hi] w fun e w' => e = .returned (numV (numR s.data.toList lo hi)) ∧ Below w.heap.size w w' := by
  have htp := Tryz.strings_TrimPrefix s ⟨#[45]⟩ w
  rw [trim_eq] at htp
  have hm : (mkB (trimM s.data.toList)).size = (trimM s.data.toList).length := mkB_size _
  have HW := Lib.hid hw
  clear hw
  cases ha : Lib.atoiAll s.data.toList with
  | ok v =>
    obtain ⟨v0, v1⟩ := atoi_bound ha
    have hat := Tryz.strconv_Atoi_ok s (by omega) v ha w
    by_cases h9 : 9 < (trimM s.data.toList).length
    · have hn := numR_none (lo := lo) (hi := hi) (num_none (l := s.data.toList) (fun _ _ => .inr h9))
      have H := Lib.hid (And.intro htp (And.intro hat hn))
      have h9' : (9 : Int) < (trimM s.data.toList).length := by omega
      clear htp hat hn ha
      generalize trimM s.data.toList = d at *
      go_enter Tryz.func150, Tryz.ntmps150
      go_wp2_with (fail)
      refine H.out.1.mono ?_
      rintro e W1 ⟨rfl, rfl⟩
      go_wp2_with (fail)
      refine H.out.2.1.mono ?_
      rintro e W2 ⟨rfl, hb⟩
      have B := Lib.hid (bw_below hb)
      clear hb
      go_wp2_with (fail)
      go_ret2
      exact ⟨by rw [H.out.2.2]; rfl, B.out⟩
    · have h9' : ¬ (9 : Int) < (trimM s.data.toList).length := by omega
      have hit := fun W htab => Tryz.strconv_Itoa v v0 v1 W htab
      by_cases he : Lib.itoa v = s.data.toList
      · have hn : numS s.data.toList = some v := by
          have := itoa_num v (by rw [he]; omega)
          rw [he] at this; exact this
        have hss : (⟨(Lib.itoa v).toArray⟩ : ByteArray) = s := by rw [he]
        rw [hss] at hit
        have hr : numR s.data.toList lo hi = if v < lo ∨ hi < v then (0, 2) else (v, 0) := by unfold numR; rw [hn]; rfl
        have H := Lib.hid (And.intro htp (And.intro hat (And.intro hit hr)))
        clear htp hat hit hr ha hn he hss
        generalize trimM s.data.toList = d at *
        have hway : v < lo ∧ (if v < lo ∨ hi < v then ((0 : Int), (2 : Int)) else (v, 0)) = (0, 2) ∨ ¬ v < lo ∧ hi < v ∧ (if v < lo ∨ hi < v then ((0 : Int), (2 : Int)) else (v, 0)) = (0, 2) ∨ ¬ v < lo ∧ ¬ hi < v ∧ (if v < lo ∨ hi < v then ((0 : Int), (2 : Int)) else (v, 0)) = (v, 0) := by
          by_cases a : v < lo
          · exact .inl ⟨a, by rw [if_pos (.inl a)]⟩
          · by_cases b : hi < v
            · exact .inr (.inl ⟨a, b, by rw [if_pos (.inr b)]⟩)
            · exact .inr (.inr ⟨a, b, by rw [if_neg (by rintro (h | h); exact a h; exact b h)]⟩)
        rcases hway with ⟨a, hx⟩ | ⟨a, b, hx⟩ | ⟨a, b, hx⟩
        all_goals
          have HX := Lib.hid hx
          clear hx
          go_enter Tryz.func150, Tryz.ntmps150
          go_wp2_with (fail)
          refine H.out.1.mono ?_
          rintro e W1 ⟨rfl, rfl⟩
          go_wp2_with (fail)
          refine H.out.2.1.mono ?_
          rintro e W2 ⟨rfl, hb⟩
          have B := Lib.hid (bw_below hb)
          clear hb
          go_wp2_with (fail)
          refine (H.out.2.2.1 _ (HW.out.below B.out).tab).mono ?_
          rintro e W3 ⟨rfl, q, os, rfl⟩
          go_wp2_with (fail)
          go_ret2
          exact ⟨by rw [H.out.2.2.2, HX.out]; try rfl, gr_call B.out (grow_below _ _)⟩
      · have hn := numR_none (lo := lo) (hi := hi) (num_none (l := s.data.toList) (fun u hu => .inl (by
          rw [ha] at hu
          injection hu with hu
          rw [← hu]; exact he)))
        have hne : ((⟨(Lib.itoa v).toArray⟩ : ByteArray).toList == s.toList) = false := by
          rw [str_beq, decide_eq_false]
          intro e
          refine he ?_
          have := congrArg (fun x : ByteArray => x.data.toList) e
          simpa using this
        obtain ⟨x, hx⟩ : ∃ x, x = (⟨(Lib.itoa v).toArray⟩ : ByteArray) := ⟨_, rfl⟩
        rw [← hx] at hit hne
        have H := Lib.hid (And.intro htp (And.intro hat (And.intro hit hn)))
        clear htp hat hit hn ha he hx
        generalize trimM s.data.toList = d at *
        go_enter Tryz.func150, Tryz.ntmps150
        go_wp2_with (fail)
        refine H.out.1.mono ?_
        rintro e W1 ⟨rfl, rfl⟩
        go_wp2_with (fail)
        refine H.out.2.1.mono ?_
        rintro e W2 ⟨rfl, hb⟩
        have B := Lib.hid (bw_below hb)
        clear hb
        go_wp2_with (fail)
        refine (H.out.2.2.1 _ (HW.out.below B.out).tab).mono ?_
        rintro e W3 ⟨rfl, q, os, rfl⟩
        go_wp2_with (fail)
        go_ret2
        exact ⟨by rw [H.out.2.2.2]; rfl, gr_call B.out (grow_below _ _)⟩
  | «syntax» =>
    have hn := numR_none (lo := lo) (hi := hi) (num_none (l := s.data.toList) (fun v h => by rw [ha] at h; cases h))
    obtain ⟨ev, hev1, hev2⟩ := HW.out.e0
    have hat := Tryz.strconv_Atoi_syntax s (by omega) ha ev w hev1 hev2
    have H := Lib.hid (And.intro htp (And.intro hat hn))
    clear htp hat hn ha hev1 hev2
    generalize trimM s.data.toList = d at *
    go_enter Tryz.func150, Tryz.ntmps150
    go_wp2_with (fail)
    refine H.out.1.mono ?_
    rintro e W1 ⟨rfl, rfl⟩
    go_wp2_with (fail)
    refine H.out.2.1.mono ?_
    rintro e W2 ⟨N, rfl, _, _, hb⟩
    have B := Lib.hid hb
    clear hb
    go_wp2_with (fail)
    go_ret2
    exact ⟨by rw [H.out.2.2]; rfl, B.out⟩
  | range =>
    have hn := numR_none (lo := lo) (hi := hi) (num_none (l := s.data.toList) (fun v h => by rw [ha] at h; cases h))
    obtain ⟨ev, hev1, hev2⟩ := HW.out.e1
    have hat := Tryz.strconv_Atoi_range s (by omega) ha ev w hev1 hev2
    obtain ⟨x, hx⟩ : ∃ x, x = Lib.atoiSat s.data.toList := ⟨_, rfl⟩
    rw [← hx] at hat
    have H := Lib.hid (And.intro htp (And.intro hat hn))
    clear htp hat hn ha hev1 hev2 hx
    generalize trimM s.data.toList = d at *
    go_enter Tryz.func150, Tryz.ntmps150
    go_wp2_with (fail)
    refine H.out.1.mono ?_
    rintro e W1 ⟨rfl, rfl⟩
    go_wp2_with (fail)
    refine H.out.2.1.mono ?_
    rintro e W2 ⟨N, rfl, _, _, hb⟩
    have B := Lib.hid hb
    clear hb
    go_wp2_with (fail)
    go_ret2
    exact ⟨by rw [H.out.2.2]; rfl, B.out⟩
end Go.Proofs.YthpcbaamkeiffaaGreatDoor
namespace Go.Proofs.YthpcbaamkeiffaaGreatDoor
open Go.ChangeShapes Go.WideShapes Go.ChangeAt Go.RowKit Go.Deep
set_option linter.unusedVariables false
set_option linter.unusedSimpArgs false

theorem take_one {α : Type} {l : List α} {j : Nat} {x : α} (h : (l.drop j).take 1 = [x]) : l[j]? = some x := by
  have := congrArg (fun l => l[0]?) h
  simpa [List.getElem?_take, List.getElem?_drop] using this

section
variable {H : Type} {enc : TypeId × Value → H} {w : World} {base b0 : Nat} {spare : Nat → Bool} {held : Bool}

theorem cell_block {a : Addr} {v : Value} (h : w.cell? a = some v) : a.block < w.heap.size ∧ a.spot = none := by
  unfold World.cell? at h
  split at h
  · rename_i c e s hb
    refine ⟨(Array.getElem?_eq_some_iff.1 hb).1, ?_⟩
    cases hs : a.spot with
    | none => rfl
    | some x => rw [hs] at h; simp at h
  · cases h

set_option maxRecDepth 100000 in
theorem open_cells {t e : TypeId} {m : Nat} (hm0 : 0 < m) (T : Type) [Inhabited T] (mk : T → Nat → Value) (ht : Tryz.prog.underlying t = some (.slice e)) (hC : Tryz.prog.cellsOf e = m)
    (hel : ∀ cs' n y, cs'.length = m → DataW.trod enc Tryz.prog w base spare held n e cs' = some y → ∃ d : T, ∀ j, j < m → cs'[j]? = some (mk d j))
    {v : Value} {d : DataW H} {ps : List MemPlace} (hval : Value.okWide Tryz.prog w .any b0 t v) (hd : DataW.Trod enc Tryz.prog w base spare held t v d ps) :
    ∃ A len cap, ∃ G : Nat → T, v = .slice A len cap ∧ ArgOk A len cap ∧ Cells w A m len (fun i => mk (G i)) := by
  obtain ⟨A, len, cap, rfl⟩ := okWide_slice ht hval
  obtain ⟨fuel, hf⟩ := hd
  rcases open_slice ht hf with ⟨hcs, hx⟩ | ⟨a, len', cap', k, n, D, Pl, hcs, hb, hl, hmx, hk, hx, hi⟩
  · simp [Value.cells] at hcs
    obtain ⟨rfl, rfl, rfl⟩ := hcs
    exact ⟨none, 0, 0, fun _ => default, rfl, (show ArgOk _ _ _ from fun _ => ⟨rfl, rfl⟩), fun hn => absurd hn (by omega)⟩
  · simp [Value.cells] at hcs
    obtain ⟨rfl, rfl, rfl⟩ := hcs
    have hlk : len ≤ k := by rw [hk]; split <;> omega
    have h1 : ∀ i, ∃ d : T, i < len → ∀ j, j < m → w.cell? ((a.add (i * m)).add j) = some (mk d j) := by
      intro i
      by_cases hlt : i < len
      · obtain ⟨cs', hc, htr⟩ := hi i (by omega)
        rw [hC] at hc
        obtain ⟨_, hcl, hat⟩ := World.cells?_some hc
        obtain ⟨d, hd⟩ := hel cs' n _ hcl htr
        exact ⟨d, fun _ j hj => (hat j hj).trans (hd j hj)⟩
      · exact ⟨default, fun h => absurd h hlt⟩
    obtain ⟨G, hG⟩ := Classical.axiomOfChoice h1
    refine ⟨some a, len, cap, G, rfl, (show ArgOk _ _ _ from fun h => by cases h), (show Cells _ _ _ _ _ from fun hn => ?_)⟩
    have h00 := hG 0 hn 0 hm0
    obtain ⟨b, off, sp⟩ := a
    have e0 : ((Addr.mk b off sp).add (0 * m)).add 0 = ⟨b, off, sp⟩ := by rw [Nat.zero_mul]; rfl
    rw [e0] at h00
    obtain ⟨hlt, hsp⟩ := cell_block h00
    simp only at hsp hlt
    subst hsp
    refine ⟨b, off, rfl, hlt, fun i j hin hj => ?_⟩
    have := hG i hin j hj
    rwa [Addr.add_lit, Addr.add_lit] at this

/-- A field of one cell. -/
theorem open_field {P : Program} {t : TypeId} {fs : Array Field} {n : Nat} {cs : List Value} {x : DataW H × List MemPlace} (hu : P.underlying t = some (.struct fs)) (hone : oneCellFields P fs = true) (h : DataW.trod enc P w base spare held n t cs = some x)
    (j : Nat) (f : Field) (hj : fs[j]? = some f) : ∃ n' y, DataW.trod enc P w base spare held n' f.type ((cs.drop j).take 1) = some y := by
  obtain ⟨ys, n', hn', hy, hlen, hyl, hf⟩ := DataW.trod_struct hu h
  obtain ⟨o, k⟩ := hone_of hone j f hj
  have h0 := hf j f hj
  rw [o, k] at h0
  have hys : j < ys.length := by
    rw [hyl]
    exact (Array.getElem?_eq_some_iff.1 hj).1
  rw [List.getElem?_eq_getElem hys] at h0
  exact ⟨n', _, h0⟩
theorem field_bool {P : Program} {t tb : TypeId} {fs : Array Field} {n : Nat} {cs : List Value} {x : DataW H × List MemPlace} (hu : P.underlying t = some (.struct fs)) (hone : oneCellFields P fs = true) (h : DataW.trod enc P w base spare held n t cs = some x)
    (hb : P.underlying tb = some .bool) (j : Nat) (hj : (fs[j]?).map (·.type) = some tb) : ∃ b, cs[j]? = some (.bool b) := by
  cases hf : fs[j]? with
  | none => rw [hf] at hj; cases hj
  | some f =>
    rw [hf] at hj
    obtain ⟨n', y, hy⟩ := open_field hu hone h j f hf
    obtain rfl : f.type = tb := by simpa using hj
    obtain ⟨b, hc, _⟩ := DataW.trod_bool hb hy
    exact ⟨b, take_one hc⟩
theorem field_int {P : Program} {t tb : TypeId} {fs : Array Field} {n : Nat} {cs : List Value} {x : DataW H × List MemPlace} (hu : P.underlying t = some (.struct fs)) (hone : oneCellFields P fs = true) (h : DataW.trod enc P w base spare held n t cs = some x)
    (hb : P.underlying tb = some (.int .i64)) (j : Nat) (hj : (fs[j]?).map (·.type) = some tb) : ∃ z, cs[j]? = some (.int .i64 z) ∧ -9223372036854775808 ≤ z ∧ z ≤ 9223372036854775807 := by
  cases hf : fs[j]? with
  | none => rw [hf] at hj; cases hj
  | some f =>
    rw [hf] at hj
    obtain ⟨n', y, hy⟩ := open_field hu hone h j f hf
    obtain rfl : f.type = tb := by simpa using hj
    obtain ⟨z, hc, _, hw⟩ := DataW.trod_int hb hy
    exact ⟨z, take_one hc, bounds_i64 hw⟩
end
end Go.Proofs.YthpcbaamkeiffaaGreatDoor
namespace Go.Proofs.YthpcbaamkeiffaaGreatDoor
open Go.RowKit Go.Shelf
set_option linter.unusedVariables false
set_option linter.unusedSimpArgs false

/-- The place of a name, or that there is none. -/
def whI (ts : List ByteArray) (s : ByteArray) : Int × Int := if Lib.idxOfS ts s < 0 then (0, 11) else (Lib.idxOfS ts s, 0)
def whV (r : Int × Int) : Value := .tuple #[.int .i64 r.1, .int .i64 r.2]

set_option maxRecDepth 100000 in
set_option maxHeartbeats 2000000 in
theorem wWhich (ts : List ByteArray) (s : ByteArray) (v : Value) (hl : ts.length ≤ 1000000) (w : World) (hv : TextsIn w v ts) :
    Calls Tryz.prog 151 #[.string s, v] w fun e w' => e = .returned (whV (whI ts s)) ∧ w' = w := by
  have hx : Calls Tryz.prog 89 #[v, .string s] w fun e w' => e = .returned (.int .i64 (Lib.idxOfS ts s)) ∧ w' = w := by
    obtain ⟨A, c, rfl, hA, hc⟩ := hv
    by_cases h0 : ts.length = 0
    · have : ts = [] := List.length_eq_zero_iff.1 h0
      subst this
      exact Tryz.slices_Index_string_empty A c s w
    · obtain ⟨b, off, rfl, hlt, hcl⟩ := hc (by omega)
      have := Tryz.slices_Index_string b off ts.length c ts s w (Nat.le_refl _) (by omega) (fun j hj => by
        have h1 := hcl j 0 hj (by decide)
        rw [Nat.mul_one, Nat.add_zero] at h1
        rw [h1]
        unfold txAt
        rw [List.getElem?_eq_getElem hj]
        simp [List.getD, hj])
      rw [List.take_of_length_le (Nat.le_refl _)] at this
      exact this
  obtain ⟨i, hi⟩ : ∃ i, i = Lib.idxOfS ts s := ⟨_, rfl⟩
  rw [← hi] at hx
  obtain ⟨A, c, rfl, _⟩ := hv
  by_cases hn : i < 0
  · have hr : whI ts s = (0, 11) := by unfold whI; rw [← hi, if_pos hn]
    have H := Lib.hid (And.intro hx hr)
    clear hx hr hi
    go_enter Tryz.func151, Tryz.ntmps151
    go_wp2_with (fail)
    refine H.out.1.mono ?_
    rintro e W1 ⟨rfl, rfl⟩
    go_wp2_with (fail)
    go_ret2
    exact ⟨by rw [H.out.2]; rfl, rfl⟩
  · have hr : whI ts s = (i, 0) := by unfold whI; rw [← hi, if_neg hn]
    have H := Lib.hid (And.intro hx hr)
    clear hx hr hi
    go_enter Tryz.func151, Tryz.ntmps151
    go_wp2_with (fail)
    refine H.out.1.mono ?_
    rintro e W1 ⟨rfl, rfl⟩
    go_wp2_with (fail)
    go_ret2
    exact ⟨by rw [H.out.2]; rfl, rfl⟩

end Go.Proofs.YthpcbaamkeiffaaGreatDoor
namespace Go.Proofs.YthpcbaamkeiffaaGreatDoor
open Go.RowKit Go.Shelf
set_option linter.unusedVariables false
set_option linter.unusedSimpArgs false

/-- A cursor stands in block g: its words, and how many of them are used. -/
structure CurAt (w : World) (g : Nat) (T : TypeId) (cs : Array Value) (ws : List Wd) (u : Nat) : Prop where
  blk : Blk w g T cs
  words : ∃ A n c, cs[2]? = some (.slice A n c) ∧ n = ws.length ∧ Cells w A 3 n (wdAt ws) ∧ ∀ a, A = some a → a.block < g
  used : cs[3]? = some (.int .i64 (u : Int))
  size : cs.size = 12

theorem CurAt.below {w w' : World} {g : Nat} {T : TypeId} {cs : Array Value} {ws : List Wd} {u : Nat} (h : CurAt w g T cs ws u) (hb : Below w.heap.size w w') : CurAt w' g T cs ws u := by
  obtain ⟨h1, ⟨A, n, c, h2, h3, h4, h5⟩, h6, h7⟩ := h
  exact ⟨h1.call hb, ⟨A, n, c, h2, h3, h4.below hb, h5⟩, h6, h7⟩
set_option maxRecDepth 100000 in
set_option maxHeartbeats 1000000 in
theorem next_code (g : Nat) (T : TypeId) (cs : Array Value) (ws : List Wd) (u : Nat) (d : Wd) (w : World) (hc : CurAt w g T cs ws u) (hu : u ≤ 1000000) (hd : ws[u]? = some d) :
    Calls Tryz.prog 124 #[.pointer (some ⟨g, 0, none⟩)] w fun e W => e = .returned (.agg #[.int .i64 d.a, .string d.t, .bool d.q]) ∧ CurAt W g T (cs.setIfInBounds 3 (.int .i64 ((u + 1 : Nat) : Int))) ws (u + 1) ∧ w.grownBy W (some g) := by
  obtain ⟨hb, ⟨A, n, c, hw, hn, hA, hlt⟩, hus, hsz⟩ := hc
  have hun : u < n := by rw [hn]; exact (List.getElem?_eq_some_iff.1 hd).1
  obtain ⟨ab, ao, rfl, hab, e0, e1, e2⟩ := cells_wd (by rw [← hn]; exact hA) hd
  have hne := hlt _ rfl
  have c2 := hb.cell' hw
  have c3 := hb.cell' hus
  have f3 := hb.frozen 3
  have hgl := hb.lt
  have hui : (u : Int) < n := by omega
  have H := Lib.hid (And.intro hb (And.intro hw (And.intro hn (And.intro hA (And.intro hlt (And.intro hus hsz))))))
  clear hb hw hn hA hlt hus hsz hd
  go_enter Tryz.func124, Tryz.ntmps124
  go_wp2_with (fail)
  go_region
  all_goals go_wp2_with (fail)
  have hg : Below w.heap.size (w.setCell ⟨g, 3, none⟩ (.int .i64 ((u : Int) + 1))) (((w.setCell ⟨g, 3, none⟩ (.int .i64 ((u : Int) + 1))).alloc (.cells #[.int .i64 d.a, .string d.t, .bool d.q] 116)).drew) := by
    have h := gr_drew (gr_alloc (Below.refl (w.setCell ⟨g, 3, none⟩ (.int .i64 ((u : Int) + 1))).heap.size (w.setCell ⟨g, 3, none⟩ (.int .i64 ((u : Int) + 1)))) (.cells #[.int .i64 d.a, .string d.t, .bool d.q] 116))
    simpa [World.setCell] using h
  have hz : Blk (((w.setCell ⟨g, 3, none⟩ (.int .i64 ((u : Int) + 1))).alloc (.cells #[.int .i64 d.a, .string d.t, .bool d.q] 116)).drew) w.heap.size 116 #[.int .i64 d.a, .string d.t, .bool d.q] := blk_at (by simp [World.setCell])
  have hs := H.out.1.set_ 3 (.int .i64 ((u : Int) + 1))
  have hgr : w.grownBy (w.setCell ⟨g, 3, none⟩ (.int .i64 ((u : Int) + 1))) (some g) := only_setCell (only_refl _ _) (Or.inl rfl) _
  have hse : (w.setCell ⟨g, 3, none⟩ (.int .i64 ((u : Int) + 1))).heap.size = w.heap.size := by simp [World.setCell]
  have hg' : Below (w.setCell ⟨g, 3, none⟩ (.int .i64 ((u : Int) + 1))).heap.size (w.setCell ⟨g, 3, none⟩ (.int .i64 ((u : Int) + 1))) (((w.setCell ⟨g, 3, none⟩ (.int .i64 ((u : Int) + 1))).alloc (.cells #[.int .i64 d.a, .string d.t, .bool d.q] 116)).drew) := by rw [hse]; exact hg
  have hgr2 := only_trans hgr (only_of_below hg' (some g))
  clear hse hg'
  generalize (((w.setCell ⟨g, 3, none⟩ (.int .i64 ((u : Int) + 1))).alloc (.cells #[.int .i64 d.a, .string d.t, .bool d.q] 116)).drew) = Z at hg hz hgr2 ⊢
  have r0 : Z.cell? ⟨w.heap.size, 0, none⟩ = some (.int .i64 d.a) := hz.cell' (i := 0) rfl
  have r1 : Z.cell? ⟨w.heap.size, 1, none⟩ = some (.string d.t) := hz.cell' (i := 1) rfl
  have r2 : Z.cell? ⟨w.heap.size, 2, none⟩ = some (.bool d.q) := hz.cell' (i := 2) rfl
  refine bodyPost_ret (v := .agg #[.int .i64 d.a, .string d.t, .bool d.q]) (by simp [results, Tryz.results124, go_sem, r0, r1, r2]) rfl ⟨rfl, ⟨?_, ?_, ?_, ?_⟩, hgr2⟩
  · have := hs.below (w' := Z) hg hgl
    exact this
  · refine ⟨some ⟨ab, ao, none⟩, n, c, ?_, H.out.2.2.1, ?_, H.out.2.2.2.2.1⟩
    · rw [Array.getElem?_setIfInBounds_ne (by decide)]; exact H.out.2.1
    · exact H.out.2.2.2.1.grown hgr2 (fun a k ha hk => by cases ha; cases hk; show ab ≠ g; have : ab < g := hne; omega)
  · rw [Array.getElem?_setIfInBounds_self_of_lt (by rw [H.out.2.2.2.2.2.2]; decide)]
  · rw [Array.size_setIfInBounds]; exact H.out.2.2.2.2.2.2
set_option maxRecDepth 100000 in
set_option maxHeartbeats 1000000 in
theorem left_code (g : Nat) (T : TypeId) (cs : Array Value) (ws : List Wd) (u : Nat) (w : World) (hc : CurAt w g T cs ws u) (hu : u ≤ 1000000) (hl : ws.length ≤ 1000000) :
    Calls Tryz.prog 152 #[.pointer (some ⟨g, 0, none⟩)] w fun e W => e = .returned (.int .i64 ((ws.length : Int) - u)) ∧ ∃ q, W = w.drewN q := by
  obtain ⟨hb, ⟨A, n, c, hw, hn, _, _⟩, hus, hsz⟩ := hc
  have c2 := hb.cell' hw
  have c3 := hb.cell' hus
  rw [← hn] at hl ⊢
  have hgl := hb.lt
  clear hb hw hus hsz hn
  go_enter Tryz.func152, Tryz.ntmps152
  go_wp2_with (fail)
  go_quiet (fail)
  go_wp2_with (fail)
  go_ret
  exact ⟨rfl, _, rfl⟩
set_option maxRecDepth 100000 in
set_option maxHeartbeats 1000000 in
theorem fails_code (g : Nat) (T : TypeId) (cs : Array Value) (er a : Int) (w : World) (hb : Blk w g T cs) (hz : cs.size = 12) (h4 : cs[4]? = some (.int .i64 0)) :
    Calls Tryz.prog 100 #[.pointer (some ⟨g, 0, none⟩), .int .i64 er, .int .i64 a] w fun e W => e = .returned (.bool false) ∧ Blk W g T ((cs.setIfInBounds 4 (.int .i64 er)).setIfInBounds 5 (.int .i64 a)) ∧ w.grownBy W (some g) := by
  obtain ⟨y, h5⟩ : ∃ y, cs[5]? = some y := ⟨_, Array.getElem?_eq_getElem (by omega)⟩
  have c4 := hb.cell' h4
  have c5 := hb.cell' h5
  have f4 := hb.frozen 4
  have f5 := hb.frozen 5
  have hgl := hb.lt
  have h1 := (hb.set_ 4 (.int .i64 er)).set_ 5 (.int .i64 a)
  have h2 := only_setCell (only_setCell (only_refl w (some g)) (p := ⟨g, 4, none⟩) (Or.inl rfl) (.int .i64 er)) (p := ⟨g, 5, none⟩) (Or.inl rfl) (.int .i64 a)
  have H := Lib.hid (And.intro h1 h2)
  clear hb hz h4 h5 h1 h2
  go_enter Tryz.func100, Tryz.ntmps100
  go_wp2_with (fail)
  go_ret
  exact ⟨rfl, H.out.1, H.out.2⟩
theorem TextsIn.grown {w w' : World} {v : Value} {ts : List ByteArray} {row : Option Nat} (h : TextsIn w v ts) (hg : w.grownBy w' row) (hr : ∀ a n c, v = .slice (some a) n c → some a.block ≠ row) : TextsIn w' v ts := by
  obtain ⟨A, c, h1, h2, h3⟩ := h
  refine ⟨A, c, h1, h2, h3.grown hg (fun a k ha hk e => hr a ts.length c (by rw [h1, ha]) (by rw [hk, e]))⟩
/-- What number and which leave behind: n is what they return. -/
def TakeP (w : World) (g : Nat) (T : TypeId) (cs : Array Value) (ws : List Wd) (u : Nat) (r : Option Int × Int × Int) (e : Ending) (W : World) : Prop :=
  (match r with
  | (some n, _) => e = .returned (.tuple #[.int .i64 n, .bool true]) ∧ CurAt W g T (cs.setIfInBounds 3 (.int .i64 ((u + 1 : Nat) : Int))) ws (u + 1)
  | (none, er, a) => e = .returned (.tuple #[.int .i64 0, .bool false]) ∧ Blk W g T (((cs.setIfInBounds 3 (.int .i64 ((u + 1 : Nat) : Int))).setIfInBounds 4 (.int .i64 er)).setIfInBounds 5 (.int .i64 a))) ∧ w.grownBy W (some g)
set_option maxRecDepth 100000 in
set_option maxHeartbeats 2000000 in
theorem number_code (g : Nat) (T : TypeId) (cs : Array Value) (ws : List Wd) (u : Nat) (d : Wd) (w : World) (hc : CurAt w g T cs ws u) (hu : u ≤ 1000000) (hd : ws[u]? = some d) (h4 : cs[4]? = some (.int .i64 0)) (hs : d.t.size ≤ 1000000) (hN : ∀ W, w.grownBy W (some g) → NumOk W) :
    Calls Tryz.prog 123 #[.pointer (some ⟨g, 0, none⟩)] w (TakeP w g T cs ws u (numW d)) := by
  have hx := next_code g T cs ws u d w hc hu hd
  have HN := Lib.hid hN
  have H4 := Lib.hid h4
  clear hc hd hN h4
  go_enter Tryz.func123, Tryz.ntmps123
  go_wp2_with (fail)
  refine hx.mono ?_
  rintro e W ⟨rfl, hcW, hgW⟩
  clear hx
  have hbo := gr_alloc (Below.refl W.heap.size W) (.cells #[.int .i64 d.a, .string d.t, .bool d.q] 116)
  have hgo := only_trans hgW (only_of_below hbo (some g))
  have hno := wNumber d.t 0 1000000 hs _ (HN.out _ hgo)
  have hbx : Blk (W.alloc (.cells #[.int .i64 d.a, .string d.t, .bool d.q] 116)) W.heap.size 116 #[.int .i64 d.a, .string d.t, .bool d.q] := Blk.new _ _ _
  have K := Lib.hid (And.intro hcW (And.intro hgo (And.intro hbo hbx)))
  clear hcW hgW hbo hgo hbx
  go_wp2_with (fail)
  refine hno.mono ?_
  rintro e W2 ⟨rfl, hb2⟩
  clear hno
  have hg2 := only_trans K.out.2.1 (only_of_below hb2 (some g))
  have hc2 : CurAt W2 g T (cs.setIfInBounds 3 (.int .i64 ((u + 1 : Nat) : Int))) ws (u + 1) := K.out.1.below (K.out.2.2.1.trans (hb2.mono K.out.2.2.1.size))
  have hx2 := K.out.2.2.2.call hb2
  have c0 : W2.cell? ⟨W.heap.size, 0, none⟩ = some (.int .i64 d.a) := hx2.cell' (i := 0) rfl
  obtain ⟨r, hr⟩ : ∃ r, r = numR d.t.data.toList 0 1000000 := ⟨_, rfl⟩
  have hnw : numW d = if r.2 = 0 then (some r.1, 0, 0) else (none, r.2, d.a) := by rw [hr]; rfl
  unfold numV
  rw [← hr]
  by_cases h0 : r.2 = 0
  · have h0b : (r.2 != 0) = false := by rw [h0]; rfl
    rw [if_pos h0] at hnw
    have Z := Lib.hid (And.intro hg2 (And.intro hc2 hnw))
    clear hg2 hc2 hx2 hr hnw h0 hb2
    go_wp2_with (fail)
    go_ret2
    refine ⟨?_, Z.out.1⟩
    rw [Z.out.2.2]
    exact ⟨rfl, Z.out.2.1⟩
  · have h0b : (r.2 != 0) = true := bne_iff_ne.2 h0
    rw [if_neg h0] at hnw
    have hf := fails_code g T (cs.setIfInBounds 3 (.int .i64 ((u + 1 : Nat) : Int))) r.2 d.a W2 hc2.blk hc2.size (by rw [Array.getElem?_setIfInBounds_ne (by decide)]; exact H4.out)
    have Z := Lib.hid (And.intro hg2 hnw)
    clear hg2 hc2 hx2 hr hnw h0 hb2
    go_wp2_with (fail)
    refine hf.mono ?_
    rintro e W3 ⟨rfl, hb3, hg3⟩
    have Z3 := Lib.hid (And.intro hb3 hg3)
    clear hf hb3 hg3
    go_wp2_with (fail)
    go_ret2
    refine ⟨?_, only_trans Z.out.1 Z3.out.2⟩
    rw [Z.out.2]
    exact ⟨rfl, Z3.out.1⟩
/-- The place of a word among names. -/
def whW (ts : List ByteArray) (d : Wd) : Option Int × Int × Int := if (whI ts d.t).2 = 0 then (some (whI ts d.t).1, 0, 0) else (none, (whI ts d.t).2, d.a)
set_option maxRecDepth 100000 in
set_option maxHeartbeats 2000000 in
theorem which_code (g : Nat) (T : TypeId) (cs : Array Value) (ws : List Wd) (u : Nat) (d : Wd) (w : World) (hc : CurAt w g T cs ws u) (hu : u ≤ 1000000) (hd : ws[u]? = some d) (h4 : cs[4]? = some (.int .i64 0)) (v : Value) (ts : List ByteArray) (hl : ts.length ≤ 1000000) (hv : TextsIn w v ts) (hva : ∀ a n c, v = .slice (some a) n c → some a.block ≠ some g) :
    Calls Tryz.prog 125 #[.pointer (some ⟨g, 0, none⟩), v] w (TakeP w g T cs ws u (whW ts d)) := by
  have hx := next_code g T cs ws u d w hc hu hd
  have HN := Lib.hid (And.intro hv hva)
  obtain ⟨vA, vc, hvv, _⟩ := hv
  subst hvv
  have H4 := Lib.hid h4
  clear hc hd hva h4
  go_enter Tryz.func125, Tryz.ntmps125
  go_wp2_with (fail)
  refine hx.mono ?_
  rintro e W ⟨rfl, hcW, hgW⟩
  clear hx
  have hbo := gr_alloc (Below.refl W.heap.size W) (.cells #[.int .i64 d.a, .string d.t, .bool d.q] 116)
  have hgo := only_trans hgW (only_of_below hbo (some g))
  have hno := wWhich ts d.t _ hl _ (HN.out.1.grown hgo HN.out.2)
  have hbx : Blk (W.alloc (.cells #[.int .i64 d.a, .string d.t, .bool d.q] 116)) W.heap.size 116 #[.int .i64 d.a, .string d.t, .bool d.q] := Blk.new _ _ _
  have K := Lib.hid (And.intro hcW (And.intro hgo (And.intro hbo hbx)))
  clear hcW hgW hbo hgo hbx
  go_wp2_with (fail)
  refine hno.mono ?_
  rintro e W2 ⟨rfl, hw2⟩
  have hb2 : Below (W.alloc (.cells #[.int .i64 d.a, .string d.t, .bool d.q] 116)).heap.size (W.alloc (.cells #[.int .i64 d.a, .string d.t, .bool d.q] 116)) W2 := by rw [hw2]; exact Below.refl _ _
  clear hno hw2
  have hg2 := only_trans K.out.2.1 (only_of_below hb2 (some g))
  have hc2 : CurAt W2 g T (cs.setIfInBounds 3 (.int .i64 ((u + 1 : Nat) : Int))) ws (u + 1) := K.out.1.below (K.out.2.2.1.trans (hb2.mono K.out.2.2.1.size))
  have hx2 := K.out.2.2.2.call hb2
  have c0 : W2.cell? ⟨W.heap.size, 0, none⟩ = some (.int .i64 d.a) := hx2.cell' (i := 0) rfl
  obtain ⟨r, hr⟩ : ∃ r, r = whI ts d.t := ⟨_, rfl⟩
  have hnw : whW ts d = if r.2 = 0 then (some r.1, 0, 0) else (none, r.2, d.a) := by rw [hr]; rfl
  unfold whV
  rw [← hr]
  by_cases h0 : r.2 = 0
  · have h0b : (r.2 != 0) = false := by rw [h0]; rfl
    rw [if_pos h0] at hnw
    have Z := Lib.hid (And.intro hg2 (And.intro hc2 hnw))
    clear hg2 hc2 hx2 hr hnw h0 hb2
    go_wp2_with (fail)
    go_ret2
    refine ⟨?_, Z.out.1⟩
    rw [Z.out.2.2]
    exact ⟨rfl, Z.out.2.1⟩
  · have h0b : (r.2 != 0) = true := bne_iff_ne.2 h0
    rw [if_neg h0] at hnw
    have hf := fails_code g T (cs.setIfInBounds 3 (.int .i64 ((u + 1 : Nat) : Int))) r.2 d.a W2 hc2.blk hc2.size (by rw [Array.getElem?_setIfInBounds_ne (by decide)]; exact H4.out)
    have Z := Lib.hid (And.intro hg2 hnw)
    clear hg2 hc2 hx2 hr hnw h0 hb2
    go_wp2_with (fail)
    refine hf.mono ?_
    rintro e W3 ⟨rfl, hb3, hg3⟩
    have Z3 := Lib.hid (And.intro hb3 hg3)
    clear hf hb3 hg3
    go_wp2_with (fail)
    go_ret2
    refine ⟨?_, only_trans Z.out.1 Z3.out.2⟩
    rw [Z.out.2]
    exact ⟨rfl, Z3.out.1⟩
end Go.Proofs.YthpcbaamkeiffaaGreatDoor
namespace Go.Proofs.YthpcbaamkeiffaaGreatDoor
open Go.RowKit Go.WideMaps Go.MapKept Go.ChangeShapes Go.WideShapes Go.ChangeMaps
set_option linter.unusedVariables false
set_option linter.unusedSimpArgs false

theorem key_law : KeyLaw Tryz.prog 9 := string_law Tryz.underlying9
theorem key_of (s : ByteArray) (hs : s.size ≤ maxLen) : ∃ l, keyOf Tryz.prog 9 (.string s) = some l := ⟨.string s.data.toList, keyOf_string_mk Tryz.underlying9 hs⟩
/-- A map whose keys are short strings. -/
def StrKeys (es : Array MapEntry) : Prop := ∀ x ∈ es.toList, ∃ s : ByteArray, x.key = .string s ∧ s.size ≤ maxLen
theorem StrKeys.keys {es : Array MapEntry} (h : StrKeys es) : ∀ e ∈ es.toList, ∃ l, keyOf Tryz.prog 9 e.key = some l := by
  intro e he
  obtain ⟨s, h1, h2⟩ := h e he
  rw [h1]
  exact key_of s h2
theorem map_put {w : World} {b c : Nat} {es : Array MapEntry} {t e : TypeId} (ht : Tryz.prog.underlying t = some (.map 9 e)) (hm : w.heap[b]? = some (.map es c)) (hk : StrKeys es) (s : ByteArray) (hs : s.size ≤ maxLen) (hno : ∀ x ∈ es.toList, x.key ≠ .string s) (val : Value) :
    ∃ w', (Instr.mapUpdate t (.map (some b)) (.string s) val).run Tryz.prog w = .ok () w' ∧ w'.heap[b]? = some (.map (es.push ⟨.string s, val, c⟩) (c + 1)) ∧ w.grownBy w' (some b) := by
  obtain ⟨l, hl⟩ := key_of s hs
  have hlt := (Array.getElem?_eq_some_iff.1 hm).1
  have hf : (Instr.findKey 9 (.string s) es.toList).run Tryz.prog w = .ok none w := by
    rcases key_law.find w hl es.toList hk.keys with ⟨h1, _⟩ | ⟨j, e, _, h2, h3⟩
    · exact h1
    · exact absurd h3 (hno e (List.mem_of_getElem? h2))
  refine ⟨{ w with heap := w.heap.setIfInBounds b (.map (es.push ⟨.string s, val, c⟩) (c + 1)) }, ?_, ?_, rfl, rfl, rfl, by simp, fun k hk hne => ?_⟩
  · rw [Instr.mapUpdate]
    simp only [Sem.run_bind, run_underlying ht, Result.andThen_ok]
    simp only [Sem.run_bind, Go.MapKept.run_getObj_map hm, Result.andThen_ok, key_law.check w false hl, hf, Go.MapKept.run_setObj_map _ hm]
  · show (w.heap.setIfInBounds b _)[b]? = _
    rw [Array.getElem?_setIfInBounds_self_of_lt hlt]
  · show (w.heap.setIfInBounds b _)[k]? = _
    rw [Array.getElem?_setIfInBounds_ne (fun e => hne (by rw [e]))]
def two (a b : Nat) : Value := .agg #[.int .i64 (a : Int), .int .i64 (b : Int)]
def shE : Array MapEntry := #[⟨.string sCap, two 2 2, 0⟩, ⟨.string sLimit, two 2 2, 1⟩, ⟨.string sDir, two 3 3, 2⟩, ⟨.string sIf, two 3 6, 3⟩, ⟨.string sRule, two 3 5, 4⟩, ⟨.string sRoute, two 4 4, 5⟩]
theorem shE_keys {n : Nat} : StrKeys (shE.extract 0 n) := by
  intro x hx
  have h : x ∈ shE.toList := by
    rw [Array.toList_extract] at hx
    exact List.mem_of_mem_drop (List.mem_of_mem_take hx)
  simp [shE] at h
  rcases h with rfl | rfl | rfl | rfl | rfl | rfl <;> exact ⟨_, rfl, by decide⟩
set_option maxRecDepth 100000 in
theorem shE_put {w : World} {b i : Nat} (hm : w.heap[b]? = some (.map (shE.extract 0 i) i)) (hi : i < 6) (s : ByteArray) (val : Value) (hx : shE[i]? = some ⟨.string s, val, i⟩) (hs : s.size ≤ maxLen) (hno : ∀ x ∈ (shE.extract 0 i).toList, x.key ≠ .string s) :
    ∃ w', (Instr.mapUpdate 162 (.map (some b)) (.string s) val).run Tryz.prog w = .ok () w' ∧ w'.heap[b]? = some (.map (shE.extract 0 (i + 1)) (i + 1)) ∧ w.grownBy w' (some b) := by
  obtain ⟨w', h1, h2, h3⟩ := map_put Tryz.underlying162 hm shE_keys s hs hno val
  refine ⟨w', h1, ?_, h3⟩
  rw [h2]
  congr 2
  match i, hi, hx with
  | 0, _, hx => cases hx; rfl
  | 1, _, hx => cases hx; rfl
  | 2, _, hx => cases hx; rfl
  | 3, _, hx => cases hx; rfl
  | 4, _, hx => cases hx; rfl
  | 5, _, hx => cases hx; rfl
theorem keys_ne {i : Nat} {s : ByteArray} (h : (shE.extract 0 i).toList.all (fun x => match x.key with | .string t => decide (t ≠ s) | _ => true) = true) : ∀ x ∈ (shE.extract 0 i).toList, x.key ≠ .string s := by
  intro x hx e
  have := List.all_eq_true.1 h x hx
  rw [e] at this
  simp at this
set_option maxRecDepth 100000 in
set_option maxHeartbeats 1000000 in
theorem shapes_code (w : World) : Calls Tryz.prog 99 #[] w fun e W => e = .returned (.map (some w.heap.size)) ∧ W.heap[w.heap.size]? = some (.map shE 6) ∧ Below w.heap.size w W := by
  have hb0 : Below w.heap.size w (w.alloc (.map #[] 0)) := gr_alloc (Below.refl _ _) _
  have h0 : (w.alloc (.map #[] 0)).heap[w.heap.size]? = some (.map (shE.extract 0 0) 0) := heap_alloc_new w _
  have hmm := @run_makeMap Tryz.prog
  obtain ⟨w1, r1, h1, g1⟩ := shE_put h0 (by decide) sCap (two 2 2) rfl (by decide) (keys_ne (by rfl))
  obtain ⟨w2, r2, h2, g2⟩ := shE_put h1 (by decide) sLimit (two 2 2) rfl (by decide) (keys_ne (by decide +kernel))
  obtain ⟨w3, r3, h3, g3⟩ := shE_put h2 (by decide) sDir (two 3 3) rfl (by decide) (keys_ne (by decide +kernel))
  obtain ⟨w4, r4, h4, g4⟩ := shE_put h3 (by decide) sIf (two 3 6) rfl (by decide) (keys_ne (by decide +kernel))
  obtain ⟨w5, r5, h5, g5⟩ := shE_put h4 (by decide) sRule (two 3 5) rfl (by decide) (keys_ne (by decide +kernel))
  obtain ⟨w6, r6, h6, g6⟩ := shE_put h5 (by decide) sRoute (two 4 4) rfl (by decide) (keys_ne (by decide +kernel))
  have hB : Below w.heap.size w w6 := by
    have q : ∀ {a b : World}, Below w.heap.size w a → a.grownBy b (some w.heap.size) → Below w.heap.size w b := fun h g => h.grown g h.size (fun k hk => by cases hk; exact Nat.le_refl _)
    exact q (q (q (q (q (q hb0 g1) g2) g3) g4) g5) g6
  have r1 : (Instr.mapUpdate 162 (.map (some w.heap.size)) (.string ⟨#[99, 97, 112]⟩) (.agg #[.int .i64 2, .int .i64 2])).run Tryz.prog (w.alloc (.map #[] 0)) = .ok () w1 := r1
  have r2 : (Instr.mapUpdate 162 (.map (some w.heap.size)) (.string ⟨#[108, 105, 109, 105, 116]⟩) (.agg #[.int .i64 2, .int .i64 2])).run Tryz.prog w1 = .ok () w2 := r2
  have r3 : (Instr.mapUpdate 162 (.map (some w.heap.size)) (.string ⟨#[100, 105, 114]⟩) (.agg #[.int .i64 3, .int .i64 3])).run Tryz.prog w2 = .ok () w3 := r3
  have r4 : (Instr.mapUpdate 162 (.map (some w.heap.size)) (.string ⟨#[105, 102]⟩) (.agg #[.int .i64 3, .int .i64 6])).run Tryz.prog w3 = .ok () w4 := r4
  have r5 : (Instr.mapUpdate 162 (.map (some w.heap.size)) (.string ⟨#[114, 117, 108, 101]⟩) (.agg #[.int .i64 3, .int .i64 5])).run Tryz.prog w4 = .ok () w5 := r5
  have r6 : (Instr.mapUpdate 162 (.map (some w.heap.size)) (.string ⟨#[114, 111, 117, 116, 101]⟩) (.agg #[.int .i64 4, .int .i64 4])).run Tryz.prog w5 = .ok () w6 := r6
  have H := Lib.hid (And.intro h6 hB)
  clear h0 h1 h2 h3 h4 h5 h6 g1 g2 g3 g4 g5 g6 hB hb0
  go_enter Tryz.func99, Tryz.ntmps99
  go_wp2_with (fail)
  go_ret
  exact ⟨rfl, H.out.1, H.out.2⟩
theorem zero_two (w : World) : (zeroValue 160).run Tryz.prog w = .ok (.agg #[.int .i64 0, .int .i64 0]) w := by kernel_rfl
def lookV (s : ByteArray) : Value := if Lib.idxOfS namesL s < 0 then .tuple #[two 0 0, .bool false] else .tuple #[two (lowN (Lib.idxOfS namesL s).toNat) (highN (Lib.idxOfS namesL s).toNat), .bool true]
set_option maxRecDepth 100000 in
theorem shape_look {W : World} {b : Nat} (hm : W.heap[b]? = some (.map shE 6)) (s : ByteArray) (hs : s.size ≤ maxLen) : (Instr.lookup 162 (.map (some b)) (.string s) true).run Tryz.prog W = .ok (lookV s) W := by
  obtain ⟨l, hl⟩ := key_of s hs
  have hk : StrKeys shE := shE_keys (n := 6)
  rw [Instr.lookup]
  simp only [Sem.run_bind, run_underlying Tryz.underlying162, Result.andThen_ok]
  have hck := key_law.check W shE.isEmpty hl
  simp only [Sem.run_bind, Go.MapKept.run_getObj_map hm, Result.andThen_ok]
  rcases key_law.find W hl shE.toList hk.keys with ⟨h1, h2⟩ | ⟨j, e, h1, h2, h3⟩
  · have hx : Lib.idxOfS namesL s < 0 := by
      by_cases h : 0 ≤ Lib.idxOfS namesL s
      · have hmem := (Lib.idxOfS_nonneg_iff namesL s).1 h
        simp [namesL] at hmem
        exfalso
        rcases hmem with rfl | rfl | rfl | rfl | rfl | rfl
        · exact h2 ⟨.string sCap, two 2 2, 0⟩ (by simp [shE]) rfl
        · exact h2 ⟨.string sLimit, two 2 2, 1⟩ (by simp [shE]) rfl
        · exact h2 ⟨.string sDir, two 3 3, 2⟩ (by simp [shE]) rfl
        · exact h2 ⟨.string sIf, two 3 6, 3⟩ (by simp [shE]) rfl
        · exact h2 ⟨.string sRule, two 3 5, 4⟩ (by simp [shE]) rfl
        · exact h2 ⟨.string sRoute, two 4 4, 5⟩ (by simp [shE]) rfl
      · omega
    unfold lookV
    rw [if_pos hx]
    simp [hck, h1, zero_two, two, go_sem]
  · have hev : lookV s = .tuple #[e.val, .bool true] := by
      have hj : j < 6 := (List.getElem?_eq_some_iff.1 h2).1
      match j, hj, h2 with
      | 0, _, h2 => cases h2; cases h3; rfl
      | 1, _, h2 => cases h2; cases h3; rfl
      | 2, _, h2 => cases h2; cases h3; rfl
      | 3, _, h2 => cases h2; cases h3; rfl
      | 4, _, h2 => cases h2; cases h3; rfl
      | 5, _, h2 => cases h2; cases h3; rfl
    rw [hev]
    simp [hck, h1, go_sem]
end Go.Proofs.YthpcbaamkeiffaaGreatDoor
