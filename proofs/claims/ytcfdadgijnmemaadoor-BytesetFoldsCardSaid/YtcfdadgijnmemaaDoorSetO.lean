/-
  How byteset and its reference write a byte; no condition.
-/
import Derived.Test.YtcfdadgijnmemaaDoorSetN
import Derived.Lib.SlBytesConst
namespace Go.Proofs.YtcfdadgijnmemaaDoor
open Go.RowKit
set_option linter.unusedVariables false
set_option linter.unusedSimpArgs false

/-- The bytes that are written as themselves, but for letters and digits. -/
def oths : List Nat := [33, 35, 36, 37, 38, 39, 42, 43, 44, 46, 47, 58, 59, 60, 61, 62, 63, 64, 95, 96, 123, 124, 125, 126, 40, 41]
def digP (b : Nat) : Bool := decide (48 ≤ b) && decide (b ≤ 57)
def plainP (b : Nat) : Bool := letP b || digP b || oths.contains b
theorem oths_cell : ∀ k, k < 26 → ((oths.map fun (n : Nat) => Value.int .u8 (n : Int)).toArray)[k]? = some (.int .u8 ((oths.getD k 0 : Nat) : Int)) := by
  intro k hk
  rw [List.getElem?_toArray, List.getElem?_map, List.getElem?_eq_getElem (show k < oths.length from hk)]
  simp [List.getD, List.getElem?_eq_getElem (show k < oths.length from hk)]
theorem oths_lt : ∀ k, oths.getD k 0 < 256 := by
  intro k
  by_cases hk : k < 26
  · have : ∀ k, k < 26 → oths.getD k 0 < 256 := by decide +kernel
    exact this k hk
  · rw [List.getD_eq_getElem?_getD, List.getElem?_eq_none (show oths.length ≤ k from by show 26 ≤ k; omega)]; decide
theorem oths_not (b : Nat) (h : ∀ j, j < 26 → oths.getD j 0 ≠ b) : oths.contains b = false := by
  rw [← Bool.not_eq_true, List.contains_iff_mem]
  intro hm
  obtain ⟨j, hj, e⟩ := List.getElem_of_mem hm
  refine h j hj ?_
  rw [List.getD_eq_getElem?_getD, List.getElem?_eq_getElem hj]
  exact e
theorem oths_is (b j : Nat) (hj : j < 26) (h : oths.getD j 0 = b) : oths.contains b = true := by
  rw [List.contains_iff_mem, ← h, List.getD_eq_getElem?_getD, List.getElem?_eq_getElem (show j < oths.length from hj)]
  exact List.getElem_mem _

set_option maxRecDepth 100000 in
set_option maxHeartbeats 2000000 in
theorem bplain (b : Nat) (hb : b < 256) (w : World) :
    Calls Tryd.prog 49 #[.int .u8 (b : Int)] w fun e w' => e = .returned (.bool (plainP b)) ∧ Below w.heap.size w w' := by
  have hb1 : (b : Int) < 256 := by omega
  have hb0 : 0 ≤ (b : Int) := by omega
  cases hl : letP b
  · by_cases hd : 48 ≤ b ∧ b ≤ 57
    · have HL := Lib.hid hl
      obtain ⟨hd1, hd2⟩ := hd
      have hdd : Hid (plainP b = true) := Lib.hid (by unfold plainP digP; rw [decide_eq_true hd1, decide_eq_true hd2]; simp)
      clear hl
      go_enter Tryd.func49, Tryd.ntmps49
      go_wp2_with (go_at_call 47; refine (bletter b hb _).mono ?_; rintro e w' ⟨rfl, rfl⟩; rw [HL.out])
      go_ret
      exact ⟨ret_bool hdd.out.symm, Below.refl _ _⟩
    · have HL := Lib.hid hl
      have hq : Hid (digP b = false) := Lib.hid (by unfold digP; rw [Bool.and_eq_false_iff, decide_eq_false_iff_not, decide_eq_false_iff_not]; omega)
      clear hl
      have fin : Hid (∀ W : World, Below w.heap.size w W → (∀ j, j < 26 → oths.getD j 0 ≠ b) → (Ending.returned (.bool false) = Ending.returned (.bool (plainP b)) ∧ Below w.heap.size w W)) := Lib.hid (fun W hW hj => ⟨ret_bool (by unfold plainP; rw [HL.out, hq.out, oths_not b hj]; rfl), hW⟩)
      go_enter Tryd.func49, Tryd.ntmps49
      have hcv := fun (w : World) (C : Array Value) (n c : Nat) => Lib.run_convert_bytes_const (P := Tryd.prog) w 22 5 C n c Tryd.underlying22 Tryd.underlying5
      go_wp2_with (go_at_call 47; refine (bletter b hb _).mono ?_; rintro e w' ⟨rfl, rfl⟩; rw [HL.out])
      all_goals
        go_loopw [18] (fun i wr => ∃ k : Nat, k ≤ 26 ∧ i = .int .i64 (k : Int) ∧ (∀ j, j < k → oths.getD j 0 ≠ b) ∧ wr.heap[w.heap.size]? = some (.cells (oths.map fun (n : Nat) => Value.int .u8 (n : Int)).toArray 5 (26, 27)) ∧ Below w.heap.size w wr) (fun i _ => 26 - (intOf i).toNat)
        case atStart => exact ⟨0, by omega, rfl, fun j hj => absurd hj (by omega), heap_alloc_new w _, gr_alloc (Below.refl _ _) _⟩
        case round =>
          obtain ⟨k, hk, rfl, hne, hbk, hB⟩ := hrel
          have HH := Lib.hid (And.intro hne (And.intro hbk hB))
          by_cases hlt : k < 26
          · have hcell := (cell_of_row wr w.heap.size k _ 5 (26, 27) hbk).trans (oths_cell k hlt)
            obtain ⟨c, hc⟩ : ∃ c, c = oths.getD k 0 := ⟨_, rfl⟩
            have hcl := oths_lt k
            rw [← hc] at hcell hcl
            have HC := Lib.hid hc
            clear hne hbk hB hc
            by_cases e : b = c
            · have hbt : ((b : Int) == (c : Int)) = true := by simp; omega
              have HE := Lib.hid e
              clear e
              have hpt : Hid (plainP b = true) := Lib.hid (by unfold plainP; rw [oths_is b k hlt (by rw [← HC.out]; exact HE.out.symm)]; simp)
              go_wp2
              go_ret
              exact ⟨ret_bool hpt.out.symm, HH.out.2.2⟩
            · have hbt : ((b : Int) == (c : Int)) = false := by simp; omega
              have HE := Lib.hid e
              clear e
              go_wp2
              refine ⟨⟨k + 1, by omega, by go_num, ?_, HH.out.2.1, HH.out.2.2⟩, by simp [intOf]; omega⟩
              intro j hj
              by_cases ej : j = k
              · subst ej; rw [← HC.out]; exact fun h => HE.out h.symm
              · exact HH.out.1 j (by omega)
          · obtain rfl : k = 26 := by omega
            clear hne hbk hB
            go_wp2
            go_ret
            exact fin.out _ HH.out.2.2 HH.out.1
  · have HL := Lib.hid hl
    have hdd : Hid (plainP b = true) := Lib.hid (by unfold plainP; rw [hl]; rfl)
    clear hl
    go_enter Tryd.func49, Tryd.ntmps49
    go_wp2_with (go_at_call 47; refine (bletter b hb _).mono ?_; rintro e w' ⟨rfl, rfl⟩; rw [HL.out])
    go_ret
    exact ⟨ret_bool hdd.out.symm, Below.refl _ _⟩

theorem oths_str : ∀ k : Nat, k < 26 → ∀ h' : k < ({ data := #[33, 35, 36, 37, 38, 39, 42, 43, 44, 46, 47, 58, 59, 60, 61, 62, 63, 64, 95, 96, 123, 124, 125, 126, 40, 41] } : ByteArray).size, (({ data := #[33, 35, 36, 37, 38, 39, 42, 43, 44, 46, 47, 58, 59, 60, 61, 62, 63, 64, 95, 96, 123, 124, 125, 126, 40, 41] } : ByteArray)[k]'h').toNat = oths.getD k 0 := by decide +kernel

set_option maxRecDepth 100000 in
set_option maxHeartbeats 2000000 in
theorem ritself (b : Nat) (hb : b < 256) (w : World) :
    Calls Tryd.prog 51 #[.int .u8 (b : Int)] w fun e w' => e = .returned (.bool (plainP b)) ∧ Below w.heap.size w w' := by
  have hb1 : (b : Int) < 256 := by omega
  have hb0 : 0 ≤ (b : Int) := by omega
  by_cases hp : (48 ≤ b ∧ b ≤ 57) ∨ (97 ≤ b ∧ b ≤ 122) ∨ (65 ≤ b ∧ b ≤ 90)
  · have hdd : Hid (plainP b = true) := Lib.hid (by
      unfold plainP digP letP
      rw [Bool.or_eq_true, Bool.or_eq_true]
      left
      simp only [Bool.or_eq_true, Bool.and_eq_true, decide_eq_true_eq]
      omega)
    rcases hp with ⟨h1, h2⟩ | ⟨h1, h2⟩ | ⟨h1, h2⟩
    all_goals
      have h1 := Int.ofNat_le.2 h1
      have h2 := Int.ofNat_le.2 h2
      simp at h1 h2
      go_enter Tryd.func51, Tryd.ntmps51
      go_wp2_with (fail)
      go_ret
      exact ⟨ret_bool hdd.out.symm, Below.refl _ _⟩
  · have hq : Hid ((letP b || digP b) = false) := Lib.hid (by
      unfold digP letP
      simp only [Bool.or_eq_false_iff, Bool.and_eq_false_iff, decide_eq_false_iff_not]
      omega)
    have fin : Hid ((∀ j, j < 26 → oths.getD j 0 ≠ b) → (Ending.returned (.bool false) = Ending.returned (.bool (plainP b)) ∧ Below w.heap.size w w)) := Lib.hid (fun hj => ⟨ret_bool (by unfold plainP; rw [hq.out, oths_not b hj]; rfl), Below.refl _ _⟩)
    have hp : b < 48 ∨ (57 < b ∧ b < 65) ∨ (90 < b ∧ b < 97) ∨ 122 < b := by omega
    rcases hp with h1 | ⟨h1, h2⟩ | ⟨h1, h2⟩ | h1
    all_goals
      go_enter Tryd.func51, Tryd.ntmps51
      go_wp2_with (fail)
      go_loop [3] (fun i => ∃ k : Nat, k ≤ 26 ∧ i = .int .i64 (k : Int) ∧ (∀ j, j < k → oths.getD j 0 ≠ b)) (fun i => 26 - (intOf i).toNat)
      case atStart => exact ⟨0, by omega, rfl, fun j hj => absurd hj (by omega)⟩
      case round =>
        obtain ⟨k, hk, rfl, hne⟩ := hrel
        have HH := Lib.hid hne
        by_cases hlt : k < 26
        · obtain ⟨c, hc⟩ : ∃ c, c = oths.getD k 0 := ⟨_, rfl⟩
          have hcl := oths_lt k
          have e1 := fun h' => oths_str k hlt h'
          rw [← hc] at hcl
          simp only [← hc] at e1
          have HC := Lib.hid hc
          clear hne hc
          by_cases e : c = b
          · have hbt : ((c : Int) == (b : Int)) = true := by simp; omega
            have HE := Lib.hid e
            clear e
            have hpt : Hid (plainP b = true) := Lib.hid (by unfold plainP; rw [oths_is b k hlt (by rw [← HC.out]; exact HE.out)]; simp)
            go_wp2
            go_ret
            exact ⟨ret_bool hpt.out.symm, Below.refl _ _⟩
          · have hbt : ((c : Int) == (b : Int)) = false := by simp; omega
            have HE := Lib.hid e
            clear e
            go_wp2
            refine ⟨⟨k + 1, by omega, by go_num, ?_⟩, by simp [intOf]; omega⟩
            intro j hj
            by_cases ej : j = k
            · subst ej; rw [← HC.out]; exact HE.out
            · exact HH.out j (by omega)
        · obtain rfl : k = 26 := by omega
          clear hne
          go_wp2
          go_ret
          exact fin.out HH.out

/-- A hexadecimal digit. -/
def hexS (n : Nat) : ByteArray := ({ data := #[48, 49, 50, 51, 52, 53, 54, 55, 56, 57, 97, 98, 99, 100, 101, 102] } : ByteArray).extract n (n + 1)
/-- A byte as it is written. -/
def wrS (b : Nat) : ByteArray := if plainP b then ⟨#[UInt8.ofNat b]⟩ else ({ data := #[92, 120] } : ByteArray) ++ hexS (b / 16) ++ hexS (b % 16)

theorem conv_one (W : World) (b : Nat) (hb : b < 256) : (convert 22 9 (.slice (some ⟨W.heap.size, 0, none⟩) 1 1)).run Tryd.prog (W.alloc (.cells #[.int .u8 (b : Int)] 5)) = .ok (.string ⟨#[UInt8.ofNat b]⟩) (W.alloc (.cells #[.int .u8 (b : Int)] 5)) := by
  refine run_convert_bytes_back _ 22 9 5 ⟨W.heap.size, 0, none⟩ 1 [UInt8.ofNat b] Tryd.underlying22 Tryd.underlying5 Tryd.underlying9 ?_
  intro i hi
  obtain rfl : i = 0 := by simp at hi; omega
  have := (Blk.new W 5 #[.int .u8 (b : Int)]).cell' (i := 0) (v := .int .u8 (b : Int)) rfl
  simp [u8_nat b hb, Addr.add]

set_option maxRecDepth 100000 in
set_option maxHeartbeats 2000000 in
theorem bwrite (b : Nat) (hb : b < 256) (w : World) :
    Calls Tryd.prog 44 #[.int .u8 (b : Int)] w fun e w' => e = .returned (.string (wrS b)) ∧ Below w.heap.size w w' := by
  have hb1 : (b : Int) < 256 := by omega
  have hb0 : 0 ≤ (b : Int) := by omega
  cases hp : plainP b
  · have hr : Hid (wrS b = ({ data := #[92, 120] } : ByteArray) ++ hexS (b / 16) ++ hexS (b % 16)) := Lib.hid (by unfold wrS; rw [hp]; rfl)
    have HP := Lib.hid hp
    clear hp
    go_enter Tryd.func44, Tryd.ntmps44
    go_wp2_with (fail)
    refine (bplain b hb _).mono ?_
    rintro e W1 ⟨rfl, hb1⟩
    rw [HP.out]
    have HB := Lib.hid hb1
    clear hb1
    go_wp2_with (fail)
    go_quiet (fail)
    go_wp2_with (fail)
    go_ret
    exact ⟨ret_str hr.out.symm, below_drewN HB.out _⟩
  · have hr : Hid (wrS b = ⟨#[UInt8.ofNat b]⟩) := Lib.hid (by unfold wrS; rw [hp]; rfl)
    have HP := Lib.hid hp
    clear hp
    go_enter Tryd.func44, Tryd.ntmps44
    go_wp2_with (fail)
    refine (bplain b hb _).mono ?_
    rintro e W1 ⟨rfl, hb1⟩
    rw [HP.out]
    have HB := Lib.hid hb1
    have hcs := conv_one W1 b hb
    clear hb1
    go_wp2_with (fail)
    go_ret
    exact ⟨ret_str hr.out.symm, gr_alloc HB.out _⟩
set_option maxRecDepth 100000 in
set_option maxHeartbeats 2000000 in
theorem rone (b : Nat) (hb : b < 256) (w : World) :
    Calls Tryd.prog 45 #[.int .u8 (b : Int)] w fun e w' => e = .returned (.string (wrS b)) ∧ Below w.heap.size w w' := by
  have hb1 : (b : Int) < 256 := by omega
  have hb0 : 0 ≤ (b : Int) := by omega
  cases hp : plainP b
  · have hr : Hid (wrS b = ({ data := #[92, 120] } : ByteArray) ++ hexS (b / 16) ++ hexS (b % 16)) := Lib.hid (by unfold wrS; rw [hp]; rfl)
    have HP := Lib.hid hp
    clear hp
    go_enter Tryd.func45, Tryd.ntmps45
    go_wp2_with (fail)
    refine (ritself b hb _).mono ?_
    rintro e W1 ⟨rfl, hb1⟩
    rw [HP.out]
    have HB := Lib.hid hb1
    clear hb1
    go_wp2_with (fail)
    go_quiet (fail)
    go_wp2_with (fail)
    go_ret
    exact ⟨ret_str hr.out.symm, below_drewN HB.out _⟩
  · have hr : Hid (wrS b = ⟨#[UInt8.ofNat b]⟩) := Lib.hid (by unfold wrS; rw [hp]; rfl)
    have HP := Lib.hid hp
    clear hp
    go_enter Tryd.func45, Tryd.ntmps45
    go_wp2_with (fail)
    refine (ritself b hb _).mono ?_
    rintro e W1 ⟨rfl, hb1⟩
    rw [HP.out]
    have HB := Lib.hid hb1
    have hcs := conv_one W1 b hb
    clear hb1
    go_wp2_with (fail)
    go_ret
    exact ⟨ret_str hr.out.symm, gr_alloc HB.out _⟩
end Go.Proofs.YtcfdadgijnmemaaDoor
