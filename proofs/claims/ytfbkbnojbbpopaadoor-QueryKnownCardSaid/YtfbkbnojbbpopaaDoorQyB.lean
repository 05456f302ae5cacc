/-
  query's value, upper, escape and Check, walked; condition: strings of at most 1000000000 bytes.
-/
import Derived.Test.YtfbkbnojbbpopaaDoorQyPl
import Derived.Test.YtfbkbnojbbpopaaDoorQyA
import Derived.Test.YtfbkbnojbbpopaaDoorShelf
import Derived.Test.YtfbkbnojbbpopaaDoorInfo
import Derived.Lib.ConvBytes
import Derived.Deep.QuietTactic
import Derived.BigQuiet
namespace Go.Proofs.YtfbkbnojbbpopaaDoor
open Go.RowKit
set_option linter.unusedVariables false
set_option linter.unusedSimpArgs false

/-- A letter in upper case. -/
def upC (c : UInt8) : UInt8 := if 97 ≤ c.toNat ∧ c.toNat ≤ 122 then (c.toNat - 32).toUInt8 else c
theorem upC_hex : ∀ c : UInt8, Lib.indexByte [48, 49, 50, 51, 52, 53, 54, 55, 56, 57, 65, 66, 67, 68, 69, 70] (upC c) = hexv c :=
  fun c => u8_all (p := fun c => Lib.indexByte [48, 49, 50, 51, 52, 53, 54, 55, 56, 57, 65, 66, 67, 68, 69, 70] (upC c) = hexv c) (by decide +kernel) c
theorem upC_no {c : UInt8} (h : ¬ (97 ≤ c.toNat ∧ c.toNat ≤ 122)) : upC c = c := by unfold upC; rw [if_neg h]
theorem upC_yes : ∀ c : UInt8, 97 ≤ c.toNat ∧ c.toNat ≤ 122 → ((upC c).toNat : Int) = (c.toNat : Int) - 32 :=
  fun c => u8_all (p := fun c => 97 ≤ c.toNat ∧ c.toNat ≤ 122 → ((upC c).toNat : Int) = (c.toNat : Int) - 32) (by decide +kernel) c

set_option maxRecDepth 100000 in
set_option maxHeartbeats 400000 in
theorem qupper (c : UInt8) (w : World) :
    Calls Tryd.prog 72 #[.int .u8 (c.toNat : Int)] w fun e w' => e = .returned (.int .u8 ((upC c).toNat : Int)) ∧ w' = w := by
  have hc : (c.toNat : Int) < 256 := u8_bound c
  have hc0 : 0 ≤ (c.toNat : Int) := by omega
  by_cases h : 97 ≤ c.toNat ∧ c.toNat ≤ 122
  · have e := Lib.hid (upC_yes c h)
    have h1 : (97 : Int) ≤ (c.toNat : Int) := by omega
    have h2 : (c.toNat : Int) ≤ 122 := by omega
    clear h
    go_enter Tryd.func72, Tryd.ntmps72
    go_wp2_with (fail)
    go_ret
    exact ⟨ret_int (by rw [e.out]; omega), rfl⟩
  · have e := Lib.hid (upC_no h)
    by_cases h1 : 97 ≤ c.toNat
    · have h2 : ¬ (c.toNat : Int) ≤ 122 := by omega
      have h1' : (97 : Int) ≤ (c.toNat : Int) := by omega
      clear h h1
      go_enter Tryd.func72, Tryd.ntmps72
      go_wp2_with (fail)
      go_ret
      exact ⟨by rw [e.out]; rfl, rfl⟩
    · have h1' : ¬ (97 : Int) ≤ (c.toNat : Int) := by omega
      clear h h1
      go_enter Tryd.func72, Tryd.ntmps72
      go_wp2_with (fail)
      go_ret
      exact ⟨by rw [e.out]; rfl, rfl⟩

set_option maxRecDepth 100000 in
set_option maxHeartbeats 400000 in
theorem qvalue (c : UInt8) (w : World) :
    Calls Tryd.prog 59 #[.int .u8 (c.toNat : Int)] w fun e w' => e = .returned (.int .i64 (hexv c)) ∧ w = w' := by
  have hh := Lib.hid (upC_hex c)
  go_enter Tryd.func59, Tryd.ntmps59
  go_wp2_with (fail)
  refine (qupper c _).mono ?_
  rintro e w' ⟨rfl, rfl⟩
  go_wp2_with (fail)
  refine (Tryd.strings_IndexByte _ _ _).mono ?_
  rintro e w' ⟨rfl, rfl⟩
  go_wp2_with (fail)
  go_ret
  refine ⟨ret_int ?_, rfl⟩
  rw [← hh.out]

/-- Of two digits, one byte. -/
theorem esc_or : ∀ a b : Fin 16, bits .or .i64 (((a.val : Int)) * 16) (b.val : Int) = 16 * (a.val : Int) + (b.val : Int) := by decide +kernel
theorem esc_bits (b c : UInt8) (hb : 0 ≤ hexv b) (hc : 0 ≤ hexv c) : bits .or .i64 (hexv b * 16) (hexv c) = 16 * hexv b + hexv c := by
  have h1 := hexv_bound b
  have h2 := hexv_bound c
  have := esc_or ⟨(hexv b).toNat, by omega⟩ ⟨(hexv c).toNat, by omega⟩
  simp only [Int.toNat_of_nonneg hb, Int.toNat_of_nonneg hc] at this
  exact this
theorem three_atQ (s : ByteArray) (i : Nat) (a b c : UInt8) (u : List UInt8) (hl : s.data.toList.drop i = a :: b :: c :: u) : ∃ h3 : i + 3 ≤ s.size, s[i] = a ∧ s[i + 1] = b ∧ s[i + 2] = c := by
  have h3 : i + 3 ≤ s.size := by
    have := congrArg List.length hl
    simp only [List.length_drop, size_data, List.length_cons] at this
    omega
  refine ⟨h3, ?_, ?_, ?_⟩
  · rw [drop_at s i (by omega)] at hl
    exact (List.cons.inj hl).1
  · rw [drop_at s i (by omega), drop_at s (i + 1) (by omega)] at hl
    exact (List.cons.inj (List.cons.inj hl).2).1
  · rw [drop_at s i (by omega), drop_at s (i + 1) (by omega), drop_at s (i + 1 + 1) (by omega)] at hl
    exact (List.cons.inj (List.cons.inj (List.cons.inj hl).2).2).1
theorem escape_waysQ (s : ByteArray) (i : Nat) (h : escL (s.data.toList.drop i) = false) : s.size < i + 3 ∨ (∃ h3 : i + 3 ≤ s.size, s[i] ≠ 37) ∨ (∃ h3 : i + 3 ≤ s.size, s[i] = 37 ∧ hexv s[i + 1] < 0) ∨ (∃ h3 : i + 3 ≤ s.size, s[i] = 37 ∧ 0 ≤ hexv s[i + 1] ∧ hexv s[i + 2] < 0) := by
  by_cases h3 : s.size < i + 3
  · exact .inl h3
  · rw [drop_at s i (by omega), drop_at s (i + 1) (by omega), drop_at s (i + 1 + 1) (by omega), escL_three] at h
    have h3' : i + 3 ≤ s.size := by omega
    by_cases a : s[i] = 37
    · by_cases b : hexv s[i + 1] < 0
      · exact .inr (.inr (.inl ⟨h3', a, b⟩))
      · by_cases c : hexv s[i + 2] < 0
        · exact .inr (.inr (.inr ⟨h3', a, by omega, c⟩))
        · simp [a, Int.not_lt.1 b, Int.not_lt.1 c] at h
    · exact .inr (.inl ⟨h3', a⟩)

set_option maxRecDepth 100000 in
set_option maxHeartbeats 2000000 in
theorem qescape_yes (s : ByteArray) (i : Nat) (b c : UInt8) (u : List UInt8) (w : World) (hs : s.size ≤ 1000000000) (hl : s.data.toList.drop i = 37 :: b :: c :: u) (hb : 0 ≤ hexv b) (hc : 0 ≤ hexv c) :
    Calls Tryd.prog 43 #[.string s, .int .i64 (i : Int)] w fun e w' => e = .returned (.tuple #[.int .u8 ((escV b c).toNat : Int), .bool true]) ∧ ∃ n, w' = w.drewN n := by
  obtain ⟨h3, e0, e1, e2⟩ := three_atQ s i _ _ _ _ hl
  have bb := hexv_bound b
  have bc := hexv_bound c
  have he := Lib.hid (escV_int b c hb hc)
  have hor := esc_bits b c hb hc
  have hi2 : (i : Int) + 2 < s.size := by omega
  have hi1 : (i : Int) + 1 < s.size := by omega
  have hi0 : (0 : Int) ≤ i := by omega
  have hii : (i : Int) < s.size := by omega
  have w1 : IntKind.i64.wrap ((i : Int) + 1) = (i : Int) + 1 := IntWalk.i64_in _ (by omega)
  have w2 : IntKind.i64.wrap ((i : Int) + 2) = (i : Int) + 2 := IntWalk.i64_in _ (by omega)
  have w3 : IntKind.i64.wrap (hexv b * 16) = hexv b * 16 := IntWalk.i64_in _ (by omega)
  have w9 : IntKind.u8.wrap (16 * hexv b + hexv c) = 16 * hexv b + hexv c := by rw [IntKind.wrap_u8']; omega
  have w5 : (0 : Int) ≤ (i : Int) + 1 := by omega
  have w6 : (0 : Int) ≤ (i : Int) + 2 := by omega
  have w7 : ((i : Int) + 1).toNat = i + 1 := by omega
  have w8 : ((i : Int) + 2).toNat = i + 2 := by omega
  clear hl
  go_enter Tryd.func43, Tryd.ntmps43
  go_wp2_with (go_at_call 59; refine (qvalue _ _).mono ?_; rintro e w' ⟨rfl, rfl⟩)
  go_quiet ((go_at_call 59; exact quiet_left (qvalue _ _)))
  go_wp2
  go_ret2
  rw [he.out]
  exact ⟨rfl, _, rfl⟩

set_option maxRecDepth 100000 in
set_option maxHeartbeats 1000000 in
theorem qescape_no (s : ByteArray) (i : Nat) (w : World) (hs : s.size ≤ 1000000000) (hi : i ≤ s.size) (he : escL (s.data.toList.drop i) = false) :
    Calls Tryd.prog 43 #[.string s, .int .i64 (i : Int)] w fun e w' => e = .returned (.tuple #[.int .u8 0, .bool false]) ∧ ∃ n, w' = w.drewN n := by
  have hw := escape_waysQ s i he
  have hi0 : (0 : Int) ≤ i := by omega
  clear he
  rcases hw with h | ⟨h3, h⟩ | ⟨h3, h, h1⟩ | ⟨h3, h, h1, h2⟩
  · have h' : (s.size : Int) ≤ (i : Int) + 2 := by omega
    go_enter Tryd.func43, Tryd.ntmps43
    go_wp2_with (fail)
    go_ret2
    exact ⟨rfl, 0, rfl⟩
  · have hq : ((s[i].toNat : Int) != 37) = true := by simpa using fun e => h (u8_ext (by simpa using e))
    have h4 : ¬ (s.size : Int) ≤ (i : Int) + 2 := by omega
    have hii : (i : Int) < s.size := by omega
    clear h
    go_enter Tryd.func43, Tryd.ntmps43
    go_wp2_with (fail)
    go_ret2
    exact ⟨rfl, 0, rfl⟩
  · have h4 : ¬ (s.size : Int) ≤ (i : Int) + 2 := by omega
    have hi2 : (i : Int) + 2 < s.size := by omega
    have hi1 : (i : Int) + 1 < s.size := by omega
    have hii : (i : Int) < s.size := by omega
    have w7 : ((i : Int) + 1).toNat = i + 1 := by omega
    go_enter Tryd.func43, Tryd.ntmps43
    go_wp2_with (go_at_call 59; refine (qvalue _ _).mono ?_; rintro e w' ⟨rfl, rfl⟩)
    go_ret2
    exact ⟨rfl, 0, rfl⟩
  · have h4 : ¬ (s.size : Int) ≤ (i : Int) + 2 := by omega
    have hi2 : (i : Int) + 2 < s.size := by omega
    have hi1 : (i : Int) + 1 < s.size := by omega
    have hii : (i : Int) < s.size := by omega
    have h1' : ¬ hexv s[i + 1] < 0 := by omega
    have w7 : ((i : Int) + 1).toNat = i + 1 := by omega
    have w8 : ((i : Int) + 2).toNat = i + 2 := by omega
    go_enter Tryd.func43, Tryd.ntmps43
    go_wp2_with (go_at_call 59; refine (qvalue _ _).mono ?_; rintro e w' ⟨rfl, rfl⟩)
    go_ret2
    exact ⟨rfl, 0, rfl⟩

/-! Check. -/
theorem bytes_below (w : World) (e : TypeId) (s : ByteArray) (B : Nat) (hB : B ≤ w.heap.size) : Below B w (Lib.bytesWorld w e s) := by
  refine ⟨?_, ?_, ?_, by rw [Lib.bytesWorld_size]; omega, fun k hk => Lib.bytesWorld_at_old w e s k (by omega)⟩ <;>
    simp [Lib.bytesWorld, World.freeze, World.alloc, World.drew, -World.alloc_eq, -World.drew_eq] <;> split <;> rfl
theorem bytes_cells (w : World) (s : ByteArray) : Cells (Lib.bytesWorld w 5 s) (some ⟨w.heap.size, 0, none⟩) 1 s.size (byteAt (byS s)) :=
  fun _ => ⟨_, _, rfl, by rw [Lib.bytesWorld_size]; omega, fun i j hi hj => by
    obtain rfl : j = 0 := by omega
    rw [Nat.zero_add, Nat.mul_one, Nat.add_zero]
    exact Lib.bytesWorld_cell w 5 s i hi⟩
theorem cells_one {w : World} {g n : Nat} {f : Nat → Nat → Value} (h : Cells w (some ⟨g, 0, none⟩) 1 n f) {i : Nat} (hi : i < n) : w.cell? ⟨g, i, none⟩ = some (f i 0) := by
  obtain ⟨a, o, e, _, hc⟩ := h (by omega)
  cases e
  have := hc i 0 hi (by omega)
  rwa [Nat.zero_add, Nat.mul_one, Nat.add_zero] at this
theorem okQ_by (s : ByteArray) (k : Nat) (h : k < s.size) : okQ s[k] = (decide (33 ≤ byS s k) && decide (byS s k ≤ 126) && decide (byS s k ≠ 35)) := by
  unfold okQ
  rw [get_byS s k h]
theorem all_take (p : UInt8 → Bool) (s : ByteArray) (k : Nat) (h : k < s.size) : (s.data.toList.take (k + 1)).all p = ((s.data.toList.take k).all p && p s[k]) := by
  rw [take_at s k h, List.all_append]; simp
theorem all_not (p : UInt8 → Bool) (s : ByteArray) (k : Nat) (h : k < s.size) (hp : p s[k] = false) : s.data.toList.all p = false := by
  cases e : s.data.toList.all p
  · rfl
  · have := List.all_eq_true.1 e s[k] (by
      have hm : s.data.toList[k]? = some s[k] := by rw [List.getElem?_eq_some_iff]; exact ⟨by rw [size_data]; exact h, rfl⟩
      exact List.mem_of_getElem? hm)
    rw [hp] at this; cases this

def QChkRel (s : ByteArray) (w0 : World) (iv : Value) : Prop := ∃ k : Nat, k ≤ s.size ∧ iv = .int .i64 (k : Int) ∧ (s.data.toList.take k).all okQ = true
set_option maxRecDepth 100000 in
set_option maxHeartbeats 1000000 in
theorem qcheck (s : ByteArray) (w : World) (hs : s.size ≤ 1000000000) :
    Calls Tryd.prog 19 #[.string s] w fun e w' => e = .returned (.int .i64 (chkL s.data.toList)) ∧ Below w.heap.size w w' := by
  by_cases h0 : 128 < s.size
  · have hc : chkL s.data.toList = 4 := by unfold chkL; rw [if_pos (by rw [size_data]; exact h0)]
    rw [hc]
    have h0' : (128 : Int) < s.size := by omega
    go_enter Tryd.func19, Tryd.ntmps19
    go_wp2_with (fail)
    go_ret
    exact ⟨rfl, Below.refl _ _⟩
  · have h0' : ¬ (128 : Int) < s.size := by omega
    have hc : chkL s.data.toList = if s.data.toList.all okQ then 0 else 3 := by unfold chkL; rw [if_neg (by rw [size_data]; exact h0)]
    have HC := Lib.hid hc
    have hcv := fun W => Lib.run_convert_string_bytes (P := Tryd.prog) W 9 63 5 s Tryd.underlying9 Tryd.underlying63 Tryd.underlying5
    have K := Lib.hid (And.intro (bytes_cells w s) (bytes_below w 5 s w.heap.size (Nat.le_refl _)))
    clear hc h0
    go_enter Tryd.func19, Tryd.ntmps19
    go_wp2_with (fail)
    go_loopw [11] (fun iv wr => QChkRel s w iv ∧ wr = Lib.bytesWorld w 5 s) (fun iv _ => s.size - (intOf iv).toNat)
    case atStart => exact ⟨⟨0, Nat.zero_le _, rfl, rfl⟩, rfl⟩
    case round =>
      obtain ⟨⟨k, hk, rfl, hall⟩, rfl⟩ := hrel
      by_cases hlt : k < s.size
      · have c0 := cells_one K.out.1 hlt
        unfold byteAt at c0
        have ho := okQ_by s k hlt
        obtain ⟨x, hx⟩ : ∃ x, x = byS s k := ⟨_, rfl⟩
        rw [← hx] at c0 ho
        have A := Lib.hid (And.intro hall (And.intro ho hx))
        have hxb : x < 256 := by rw [hx]; exact byS_lt s k
        clear hall ho hx
        by_cases h1 : x < 33
        · have h1' : (x : Int) < 33 := by omega
          go_wp2_with (fail)
          go_ret
          refine ⟨by rw [HC.out, all_not okQ s k hlt (by rw [A.out.2.1]; simp; omega)]; rfl, K.out.2⟩
        · by_cases h2 : 126 < x
          · have h1' : ¬ (x : Int) < 33 := by omega
            have h2' : (126 : Int) < x := by omega
            go_wp2_with (fail)
            go_ret
            refine ⟨by rw [HC.out, all_not okQ s k hlt (by rw [A.out.2.1]; simp; omega)]; rfl, K.out.2⟩
          · by_cases h3 : x = 35
            · subst h3
              go_wp2_with (fail)
              go_ret
              refine ⟨by rw [HC.out, all_not okQ s k hlt (by rw [A.out.2.1]; simp)]; rfl, K.out.2⟩
            · have h1' : ¬ (x : Int) < 33 := by omega
              have h2' : ¬ (126 : Int) < x := by omega
              have h3' : ((x : Int) == 35) = false := by simpa using (by omega : ¬ (x : Int) = 35)
              go_wp2_with (fail)
              go_roundw
              case rel =>
                refine ⟨⟨k + 1, by omega, rfl, ?_⟩, trivial⟩
                rw [all_take okQ s k hlt, A.out.1, A.out.2.1]
                simp; omega
              case measure => simp [intOf]; omega
      · have hk' : k = s.size := by omega
        subst hk'
        have A := Lib.hid hall
        clear hall
        go_wp2_with (fail)
        go_ret
        refine ⟨?_, K.out.2⟩
        have := A.out
        rw [List.take_of_length_le (by rw [size_data]; omega)] at this
        rw [HC.out, this]; rfl
end Go.Proofs.YtfbkbnojbbpopaaDoor
