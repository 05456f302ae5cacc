/-
  Queries, as plain functions on lists of bytes; no program is in sight; no condition.
-/
import Derived.Test.YtfbkbnojbbpopaaDoorPctFn
import Derived.Test.YtfbkbnojbbpopaaDoorByt
import Derived.Lib.CutLaws
import Derived.Lib.IndexLaws
import Derived.Lib.Join
namespace Go.Proofs.YtfbkbnojbbpopaaDoor
set_option linter.unusedVariables false
set_option linter.unusedSimpArgs false

/-- The bytes that stay. -/
def stP (c : Nat) : Bool := (decide (97 ≤ c) && decide (c ≤ 122)) || (decide (65 ≤ c) && decide (c ≤ 90)) || (decide (48 ≤ c) && decide (c ≤ 57)) || [45, 46, 95, 126, 47, 58, 64, 33, 42, 40, 41, 44, 36].contains c
def stB (c : UInt8) : Bool := stP c.toNat
def enc1 (c : UInt8) : List UInt8 := if stB c then [c] else [37, hexd (c.toNat / 16), hexd (c.toNat % 16)]
def encQ (l : List UInt8) : List UInt8 := l.flatMap enc1
theorem encQ_nil : encQ [] = [] := rfl
theorem encQ_cons (c : UInt8) (t : List UInt8) : encQ (c :: t) = enc1 c ++ encQ t := by simp [encQ]
theorem encQ_append (a b : List UInt8) : encQ (a ++ b) = encQ a ++ encQ b := by simp [encQ]
theorem encQ_one (c : UInt8) : encQ [c] = enc1 c := by simp [encQ]
theorem enc1_len (c : UInt8) : (enc1 c).length ≤ 3 := by unfold enc1; split <;> simp
theorem encQ_len (l : List UInt8) : (encQ l).length ≤ 3 * l.length := by
  induction l with
  | nil => simp [encQ]
  | cons a t ih => have := enc1_len a; rw [encQ_cons, List.length_append, List.length_cons]; omega
theorem u8_all {p : UInt8 → Prop} (h : ∀ n : Nat, n < 256 → p n.toUInt8) (c : UInt8) : p c := by
  have := h c.toNat c.toNat_lt
  rwa [show c.toNat.toUInt8 = c by simp] at this

/-- A string of a list. -/
def mkB (l : List UInt8) : ByteArray := ⟨l.toArray⟩
theorem mkB_data (l : List UInt8) : (mkB l).data.toList = l := by simp [mkB]
theorem mkB_size (l : List UInt8) : (mkB l).size = l.length := by show l.toArray.size = _; simp
theorem mkB_of (s : ByteArray) : mkB s.data.toList = s := by unfold mkB; simp
theorem mkB_inj {a b : List UInt8} : mkB a = mkB b ↔ a = b := by
  constructor
  · intro h; rw [← mkB_data a, h, mkB_data]
  · rintro rfl; rfl
theorem mkB_append (a b : List UInt8) : mkB a ++ mkB b = mkB (a ++ b) := by
  apply str_ext
  rw [mkB_data]
  simp [mkB]

/-! Which strings are queries. -/
def okQ (c : UInt8) : Bool := decide (33 ≤ c.toNat) && decide (c.toNat ≤ 126) && decide (c.toNat ≠ 35)
def chkL (l : List UInt8) : Int := if 128 < l.length then 4 else if l.all okQ then 0 else 3
theorem chkL_zero {l : List UInt8} (h : chkL l = 0) : l.length ≤ 128 ∧ l.all okQ = true := by
  unfold chkL at h
  split at h
  · cases h
  · split at h
    · exact ⟨by omega, by assumption⟩
    · cases h
theorem chkL_ok {l : List UInt8} (h1 : l.length ≤ 128) (h2 : l.all okQ = true) : chkL l = 0 := by
  unfold chkL
  rw [if_neg (by omega), if_pos h2]

/-! Literals. -/
def litC (c : UInt8) : Bool := stB c || decide (c = 38) || decide (c = 61) || decide (c = 43) || decide (c = 59) || decide (c = 37)
instance (l : List UInt8) : Decidable (okL l) := inferInstanceAs (Decidable ((scan l).2.1 = l.length))
def litB (l : List UInt8) : Bool := decide (okL l) && l.all litC
def litE (l : List UInt8) : Int := if litB l then 0 else 3
theorem okL_plain {a : UInt8} {t : List UInt8} (h : a ≠ 37) : okL (a :: t) ↔ okL t := by
  unfold okL
  rw [scan_plain a t h]
  simp
theorem okL_esc {b c : UInt8} {u : List UInt8} (hb : 0 ≤ hexv b) (hc : 0 ≤ hexv c) : okL (37 :: b :: c :: u) ↔ okL u := by
  unfold okL
  rw [scan_esc b c u ⟨hb, hc⟩]
  simp
theorem okL_bad {t : List UInt8} (h : escL (37 :: t) = false) : ¬ okL (37 :: t) := by
  unfold okL
  rw [scan_bad t h]
  simp
theorem okL_nil : okL [] := by unfold okL; rw [scan_nil]; rfl
theorem hex_stay : ∀ c : UInt8, 0 ≤ hexv c → stB c = true := fun c => u8_all (p := fun c => 0 ≤ hexv c → stB c = true) (by decide +kernel) c
theorem litB_nil : litB [] = true := by
  unfold litB
  rw [decide_eq_true okL_nil]; rfl
theorem litB_plain {a : UInt8} {t : List UInt8} (h : a ≠ 37) (hl : litC a = true) : litB (a :: t) = litB t := by
  unfold litB
  rw [List.all_cons, hl, Bool.true_and]
  congr 1
  rw [decide_eq_decide]
  exact okL_plain h
theorem litB_esc {b c : UInt8} {u : List UInt8} (hb : 0 ≤ hexv b) (hc : 0 ≤ hexv c) : litB (37 :: b :: c :: u) = litB u := by
  have h1 : litC b = true := by unfold litC; rw [hex_stay b hb]; rfl
  have h2 : litC c = true := by unfold litC; rw [hex_stay c hc]; rfl
  unfold litB
  rw [List.all_cons, List.all_cons, List.all_cons, h1, h2, show litC 37 = true by decide, Bool.true_and, Bool.true_and, Bool.true_and]
  congr 1
  rw [decide_eq_decide]
  exact okL_esc hb hc
theorem litB_bad {a : UInt8} {t : List UInt8} (hl : litC a = false) : litB (a :: t) = false := by
  unfold litB
  rw [List.all_cons, hl, Bool.false_and, Bool.and_false]
theorem litB_none {t : List UInt8} (h : escL (37 :: t) = false) : litB (37 :: t) = false := by
  unfold litB
  rw [decide_eq_false (okL_bad h), Bool.false_and]

/-! Pieces. -/
def splitL (c : UInt8) : List UInt8 → List (List UInt8)
  | [] => [[]]
  | a :: t => if a = c then [] :: splitL c t else match splitL c t with
    | [] => [[a]]
    | p :: ps => (a :: p) :: ps
theorem splitL_ne (c : UInt8) (l : List UInt8) : splitL c l ≠ [] := by
  cases l with
  | nil => simp [splitL]
  | cons a t =>
    unfold splitL
    split
    · simp
    · split <;> simp
theorem splitL_at (c : UInt8) (t : List UInt8) : splitL c (c :: t) = [] :: splitL c t := by
  conv => lhs; unfold splitL
  rw [if_pos rfl]
theorem splitL_past {c x : UInt8} (t : List UInt8) (h : x ≠ c) {p : List UInt8} {ps : List (List UInt8)} (e : splitL c t = p :: ps) : splitL c (x :: t) = (x :: p) :: ps := by
  conv => lhs; unfold splitL
  rw [if_neg h, e]
theorem splitL_append (c : UInt8) (a b : List UInt8) : splitL c (a ++ c :: b) = splitL c a ++ splitL c b := by
  induction a with
  | nil => rw [List.nil_append, splitL_at]; rfl
  | cons x t ih =>
    rw [List.cons_append]
    by_cases h : x = c
    · subst h
      rw [splitL_at, splitL_at, ih, List.cons_append]
    · cases e : splitL c t with
      | nil => exact absurd e (splitL_ne c t)
      | cons p ps =>
        rw [e] at ih
        rw [splitL_past t h e, splitL_past _ h (ih.trans (List.cons_append ..)), List.cons_append]
theorem splitL_none {c : UInt8} {l : List UInt8} (h : c ∉ l) : splitL c l = [l] := by
  induction l with
  | nil => rfl
  | cons a t ih =>
    unfold splitL
    rw [if_neg (by rintro rfl; simp at h), ih (by simp at h; exact h.2)]
theorem splitL_hit {c : UInt8} {p r : List UInt8} (h : c ∉ p) : splitL c (p ++ c :: r) = p :: splitL c r := by
  rw [splitL_append, splitL_none h]
  rfl
theorem splitL_all {q : UInt8 → Bool} {c : UInt8} {l : List UInt8} (h : l.all q = true) : ∀ p ∈ splitL c l, p.all q = true := by
  induction l with
  | nil => intro p hp; simp [splitL] at hp; subst hp; rfl
  | cons a t ih =>
    rw [List.all_cons, Bool.and_eq_true] at h
    intro p hp
    unfold splitL at hp
    split at hp
    · rcases List.mem_cons.1 hp with rfl | hp
      · rfl
      · exact ih h.2 p hp
    · split at hp
      · rename_i e; exact absurd e (splitL_ne c t)
      · rename_i x xs e
        rcases List.mem_cons.1 hp with rfl | hp
        · rw [List.all_cons, h.1, ih h.2 x (by rw [e]; simp)]; rfl
        · exact ih h.2 p (by rw [e]; simp [hp])
theorem splitL_len (c : UInt8) (l : List UInt8) : (splitL c l).length ≤ l.length + 1 := by
  induction l with
  | nil => simp [splitL]
  | cons a t ih =>
    unfold splitL
    split
    · simp; omega
    · split
      · simp
      · rename_i x xs e; rw [e] at ih; simp at *; omega
theorem splitL_le (c : UInt8) (l : List UInt8) : ∀ p ∈ splitL c l, p.length ≤ l.length := by
  induction l with
  | nil => intro p hp; simp [splitL] at hp; subst hp; simp
  | cons a t ih =>
    intro p hp
    unfold splitL at hp
    split at hp
    · rcases List.mem_cons.1 hp with rfl | hp
      · simp
      · have := ih p hp; simp; omega
    · split at hp
      · rename_i e; exact absurd e (splitL_ne c t)
      · rename_i x xs e
        rcases List.mem_cons.1 hp with rfl | hp
        · have := ih x (by rw [e]; simp); simp; omega
        · have := ih p (by rw [e]; simp [hp]); simp; omega
/-- Where a byte first stands in a string. -/
theorem ixL (s : ByteArray) (c : UInt8) : (Lib.indexB s ⟨#[c]⟩ = -1 ∧ c ∉ s.data.toList) ∨
    ∃ o : Nat, Lib.indexB s ⟨#[c]⟩ = o ∧ o < s.size ∧ s.data.toList = s.data.toList.take o ++ c :: s.data.toList.drop (o + 1) ∧ c ∉ s.data.toList.take o := by
  have e : Lib.indexB s ⟨#[c]⟩ = Lib.indexByte s.data.toList c := Lib.index_one s.data.toList c
  have hge := Lib.indexByte_ge s.data.toList c
  rw [e]
  rcases (show Lib.indexByte s.data.toList c = -1 ∨ 0 ≤ Lib.indexByte s.data.toList c by omega) with h | h
  · refine .inl ⟨h, fun hm => ?_⟩
    obtain ⟨k, hk⟩ := List.getElem?_of_mem hm
    exact Lib.indexByte_none h k hk
  · obtain ⟨h1, h2⟩ := Lib.indexByte_some (Int.toNat_of_nonneg h).symm
    have ho : (Lib.indexByte s.data.toList c).toNat < s.data.toList.length := (List.getElem?_eq_some_iff.1 h1).1
    refine .inr ⟨_, (Int.toNat_of_nonneg h).symm, by rw [← size_data]; exact ho, ?_, fun hm => ?_⟩
    · conv => lhs; rw [← List.take_append_drop (Lib.indexByte s.data.toList c).toNat s.data.toList]
      rw [List.drop_eq_getElem_cons ho, (List.getElem?_eq_some_iff.1 h1).2]
    · obtain ⟨k, hk⟩ := List.getElem?_of_mem hm
      have hlt : k < (Lib.indexByte s.data.toList c).toNat := by
        have := (List.getElem?_eq_some_iff.1 hk).1
        rw [List.length_take] at this
        omega
      rw [List.getElem?_take, if_pos hlt] at hk
      exact h2 k hlt hk

/-! Pairs. -/
structure Pr where
  n : ByteArray
  v : ByteArray
  b : Bool
deriving DecidableEq
/-- What stands before the first byte c, and behind it. -/
def preL (c : UInt8) : List UInt8 → List UInt8
  | [] => []
  | a :: t => if a = c then [] else a :: preL c t
def posL (c : UInt8) : List UInt8 → List UInt8
  | [] => []
  | a :: t => if a = c then t else posL c t
theorem pre_hit {c : UInt8} {p r : List UInt8} (h : c ∉ p) : preL c (p ++ c :: r) = p ∧ posL c (p ++ c :: r) = r := by
  induction p with
  | nil => simp [preL, posL]
  | cons a t ih =>
    simp at h
    obtain ⟨i1, i2⟩ := ih h.2
    rw [List.cons_append]
    unfold preL posL
    rw [if_neg (fun e => h.1 e.symm), if_neg (fun e => h.1 e.symm), i1, i2]
    exact ⟨rfl, rfl⟩
theorem pre_none {c : UInt8} {p : List UInt8} (h : c ∉ p) : preL c p = p ∧ posL c p = [] := by
  induction p with
  | nil => simp [preL, posL]
  | cons a t ih =>
    simp at h
    obtain ⟨i1, i2⟩ := ih h.2
    unfold preL posL
    rw [if_neg (fun e => h.1 e.symm), if_neg (fun e => h.1 e.symm), i1, i2]
    exact ⟨rfl, rfl⟩
theorem pre_app {c : UInt8} {p : List UInt8} (h : c ∈ p) : p = preL c p ++ c :: posL c p ∧ c ∉ preL c p := by
  induction p with
  | nil => simp at h
  | cons a t ih =>
    unfold preL posL
    by_cases e : a = c
    · rw [if_pos e, if_pos e, e]; simp
    · rw [if_neg e, if_neg e]
      obtain ⟨i1, i2⟩ := ih (by simp at h; exact h.resolve_left (fun x => e x.symm))
      refine ⟨by rw [List.cons_append, ← i1], ?_⟩
      simp
      exact ⟨fun x => e x.symm, i2⟩
def pairOf (p : List UInt8) : Pr := ⟨mkB (preL 61 p), mkB (posL 61 p), !decide (61 ∈ p)⟩
def pairsL (l : List UInt8) : List Pr := ((splitL 38 l).filter (fun p => !p.isEmpty)).map pairOf
theorem cut_pair (p : ByteArray) : mkB (Lib.cut p.data.toList [61]).1 = (pairOf p.data.toList).n ∧ mkB (Lib.cut p.data.toList [61]).2.1 = (pairOf p.data.toList).v ∧ (Lib.cut p.data.toList [61]).2.2 = !(pairOf p.data.toList).b := by
  unfold Lib.cut pairOf
  have hi : Lib.index p.data.toList [61] = Lib.indexB p ⟨#[61]⟩ := rfl
  rw [hi]
  rcases ixL p 61 with ⟨e, hn⟩ | ⟨o, e, ho, hl, hn⟩
  · rw [e, if_neg (by decide), (pre_none hn).1, (pre_none hn).2]
    simp [hn]
  · rw [e, if_pos (by omega)]
    have h1 : (preL 61 p.data.toList) = p.data.toList.take o := by
      conv => lhs; rw [hl]
      exact (pre_hit hn).1
    have h2 : (posL 61 p.data.toList) = p.data.toList.drop (o + 1) := by
      conv => lhs; rw [hl]
      exact (pre_hit hn).2
    have hm : 61 ∈ p.data.toList := by rw [hl]; simp
    refine ⟨?_, ?_, ?_⟩
    · rw [h1]; rfl
    · rw [h2]; rfl
    · show true = !!decide (61 ∈ p.data.toList)
      rw [decide_eq_true hm]; rfl

/-! Decoded pairs. -/
def decP (p : Pr) : Pr := ⟨rOut p.n, rOut p.v, p.b⟩
def okP (p : Pr) : Bool := decide (okS p.n) && decide (okS p.v)
def pairsQ (l : List UInt8) : List Pr := if chkL l = 0 then pairsL l else []
def decE (l : List UInt8) : Int := if chkL l = 0 then (if (pairsL l).all okP then 0 else 3) else chkL l
def decL (l : List UInt8) : List Pr := if decE l = 0 then (pairsL l).map decP else []
theorem decE_zero {l : List UInt8} (h : decE l = 0) : chkL l = 0 ∧ (pairsL l).all okP = true := by
  unfold decE at h
  split at h
  · split at h
    · exact ⟨by assumption, by assumption⟩
    · cases h
  · exact absurd h (by assumption)
theorem decE_ok {l : List UInt8} (h1 : chkL l = 0) (h2 : (pairsL l).all okP = true) : decE l = 0 ∧ decL l = (pairsL l).map decP := by
  have : decE l = 0 := by unfold decE; rw [if_pos h1, if_pos h2]
  exact ⟨this, by unfold decL; rw [if_pos this]⟩
theorem decE_chk {l : List UInt8} (h1 : chkL l ≠ 0) : decE l = chkL l ∧ decL l = [] := by
  have : decE l = chkL l := by unfold decE; rw [if_neg h1]
  exact ⟨this, by unfold decL; rw [if_neg (by rw [this]; exact h1)]⟩
theorem decE_no {l : List UInt8} (h1 : chkL l = 0) (h2 : (pairsL l).all okP = false) : decE l = 3 ∧ decL l = [] := by
  have : decE l = 3 := by unfold decE; rw [if_pos h1, if_neg (by rw [h2]; decide)]
  exact ⟨this, by unfold decL; rw [if_neg (by rw [this]; decide)]⟩

/-! The value of a name. -/
def findP (x : ByteArray) : List Pr → Option ByteArray
  | [] => none
  | p :: t => if p.n = x then some p.v else findP x t
def getE (l : List UInt8) (x : ByteArray) : Int := if decE l = 0 then (match findP x (decL l) with | none => 6 | some _ => 0) else decE l
def getV (l : List UInt8) (x : ByteArray) : ByteArray := if decE l = 0 then (match findP x (decL l) with | none => mkB [] | some v => v) else mkB []

/-! Queries made of pairs. -/
def badP (p : Pr) : Bool := p.b && (decide (p.n.size = 0) || !decide (p.v.size = 0))
def partL (p : Pr) : List UInt8 := encQ p.n.data.toList ++ (if p.b then [] else 61 :: encQ p.v.data.toList)
def joinL (l : List Pr) : List UInt8 := Lib.join (l.map partL) [38]
def joinE (l : List Pr) : Int := if l.any badP then 3 else if 128 < (joinL l).length then 4 else 0
def joinS (l : List Pr) : ByteArray := if joinE l = 0 then mkB (joinL l) else mkB []
def canE (l : List UInt8) : Int := if decE l = 0 then joinE (decL l) else decE l
def canS (l : List UInt8) : ByteArray := if decE l = 0 then joinS (decL l) else mkB []

/-! Two queries. -/
def appE (q m : List UInt8) : Int := if chkL q ≠ 0 then chkL q else if chkL m ≠ 0 then chkL m else if q = [] ∨ m = [] then 0 else if 128 < q.length + 1 + m.length then 4 else 0
def appS (q m : List UInt8) : ByteArray := if appE q m = 0 then (if q = [] ∨ m = [] then mkB (m ++ q) else mkB (m ++ 38 :: q)) else mkB []
end Go.Proofs.YtfbkbnojbbpopaaDoor
