/-
  strconv.ParseUint of two bytes in base 16, walked: their number, or an error (the inner function); no condition.
-/
import Derived.Test.YtpicenopiigfpaaDoorRwA
import Derived.Test.YtpicenopiigfpaaDoorShelf
import Derived.Lib.Strings
import Derived.Lib.Walk
import Derived.Lib.ConvBytes
import Derived.Lib.ParseIntBMem
import Derived.Laws.Strings3
import Derived.Laws.Closers25
import Derived.Laws.Closers25b
import Derived.WalkKit
import Derived.BigCall
import Derived.BigGuard
namespace Go.Proofs.YtpicenopiigfpaaDoor
open Go.RowKit Go.Shelf
set_option linter.unusedVariables false
set_option linter.unusedSimpArgs false

/-- The number of hexadecimal digits, behind what is read. -/
def hx16 : Nat → List UInt8 → Option Nat
  | acc, [] => some acc
  | acc, c :: t => if 0 ≤ hexv c then hx16 (acc * 16 + (hexv c).toNat) t else none
theorem hx16_two (a b : UInt8) : hx16 0 [a, b] = if 0 ≤ hexv a ∧ 0 ≤ hexv b then some (16 * (hexv a).toNat + (hexv b).toNat) else none := by
  unfold hx16
  by_cases h1 : 0 ≤ hexv a
  · rw [if_pos h1]
    unfold hx16
    by_cases h2 : 0 ≤ hexv b
    · rw [if_pos h2, if_pos ⟨h1, h2⟩]
      unfold hx16
      congr 1; omega
    · rw [if_neg h2, if_neg (fun h => h2 h.2)]
  · rw [if_neg h1, if_neg (fun h => h1 h.1)]
theorem hex_class (c : UInt8) : (48 ≤ c.toNat ∧ c.toNat ≤ 57 ∧ hexv c = c.toNat - 48) ∨
    (c.toNat ≠ 95 ∧ ¬ (48 ≤ c.toNat ∧ c.toNat ≤ 57) ∧ 97 ≤ bits .or .u8 (c.toNat : Int) 32 ∧ bits .or .u8 (c.toNat : Int) 32 ≤ 102 ∧ hexv c = bits .or .u8 (c.toNat : Int) 32 - 97 + 10) ∨
    (c.toNat ≠ 95 ∧ ¬ (48 ≤ c.toNat ∧ c.toNat ≤ 57) ∧ 103 ≤ bits .or .u8 (c.toNat : Int) 32 ∧ bits .or .u8 (c.toNat : Int) 32 ≤ 122 ∧ hexv c = -1) ∨
    (c.toNat ≠ 95 ∧ ¬ (48 ≤ c.toNat ∧ c.toNat ≤ 57) ∧ bits .or .u8 (c.toNat : Int) 32 < 97 ∧ hexv c = -1) ∨
    (c.toNat ≠ 95 ∧ ¬ (48 ≤ c.toNat ∧ c.toNat ≤ 57) ∧ 122 < bits .or .u8 (c.toNat : Int) 32 ∧ hexv c = -1) ∨
    (c.toNat = 95 ∧ 122 < bits .or .u8 (c.toNat : Int) 32 ∧ hexv c = -1) :=
  u8_all (p := fun c => (48 ≤ c.toNat ∧ c.toNat ≤ 57 ∧ hexv c = c.toNat - 48) ∨
    (c.toNat ≠ 95 ∧ ¬ (48 ≤ c.toNat ∧ c.toNat ≤ 57) ∧ 97 ≤ bits .or .u8 (c.toNat : Int) 32 ∧ bits .or .u8 (c.toNat : Int) 32 ≤ 102 ∧ hexv c = bits .or .u8 (c.toNat : Int) 32 - 97 + 10) ∨
    (c.toNat ≠ 95 ∧ ¬ (48 ≤ c.toNat ∧ c.toNat ≤ 57) ∧ 103 ≤ bits .or .u8 (c.toNat : Int) 32 ∧ bits .or .u8 (c.toNat : Int) 32 ≤ 122 ∧ hexv c = -1) ∨
    (c.toNat ≠ 95 ∧ ¬ (48 ≤ c.toNat ∧ c.toNat ≤ 57) ∧ bits .or .u8 (c.toNat : Int) 32 < 97 ∧ hexv c = -1) ∨
    (c.toNat ≠ 95 ∧ ¬ (48 ≤ c.toNat ∧ c.toNat ≤ 57) ∧ 122 < bits .or .u8 (c.toNat : Int) 32 ∧ hexv c = -1) ∨
    (c.toNat = 95 ∧ 122 < bits .or .u8 (c.toNat : Int) 32 ∧ hexv c = -1)) (by decide +kernel) c
/-- What the inner ParseUint hands back. -/
def puV : Option Nat → Value
  | some n => .tuple #[.int .u64 (n : Int), .nilIface]
  | none => .tuple #[.int .u64 0, .iface 99 (.int .i64 2)]

set_option maxHeartbeats 32000000 in
set_option maxRecDepth 100000 in
theorem pu16 (t : ByteArray) (h2 : t.size = 2) (w : World) :
    Calls Tryd.prog 72 #[.string t, .int .i64 16, .int .i64 8] w fun e w' => e = .returned (puV (hx16 0 t.data.toList)) ∧ w' = Lib.bytesWorld w 5 t := by
  have hemp : t.toList.isEmpty = false := by
    rw [← decide_eq_emptyBytes]
    exact decide_eq_false (fun h => by rw [h] at h2; cases h2)
  have hcv := Lib.run_convert_string_bytes (P := Tryd.prog) w 9 65 5 t (u := .string) Tryd.underlying9 Tryd.underlying65 Tryd.underlying5
  have hB : ∀ j, j < t.size → (Lib.bytesWorld w 5 t).cell? ⟨w.heap.size, j, none⟩ = some (.int .u8 (t.data.toList.getD j 0).toNat) := fun j hj => Lib.bytesWorld_cell w 5 t j hj
  obtain ⟨W1, hW1⟩ : ∃ W1, W1 = Lib.bytesWorld w 5 t := ⟨_, rfl⟩
  rw [← hW1] at hcv hB ⊢
  clear hW1
  obtain ⟨bs, hL⟩ : ∃ bs, bs = t.data.toList := ⟨_, rfl⟩
  have hLn : bs.length = t.size := by rw [hL, size_data]
  rw [← hL] at hB ⊢
  clear hL
  have hmv : IntKind.u64.wrap (IntKind.u64.wrap 256 - 1) = 255 := by
    rw [IntKind.wrap_u64, IntKind.wrap_u64]
    decide
  go_enter Tryd.func72, Tryd.ntmps72
  go_wp2
  go_loop [12, 13, 101] (fun vu vn vi => ∃ (k acc : Nat) (a : Int), vu = .bool false ∧ vn = .int .u64 a ∧ vi = .int .i64 k ∧ k ≤ t.size ∧ Hid (a = (acc : Int) ∧ acc ≤ 255 ∧ (k < 2 → acc ≤ 15) ∧ (k = 0 → acc = 0) ∧ hx16 0 bs = hx16 acc (bs.drop k)))
    (fun _ _ vi => t.size - (intOf vi).toNat)
  case atStart => exact ⟨0, 0, 0, rfl, rfl, rfl, by omega, rfl, by omega, fun _ => by omega, fun _ => rfl, rfl⟩
  case round =>
    obtain ⟨k, acc, a, rfl, rfl, rfl, hk, hh⟩ := hrel
    obtain ⟨ha, hacc, hac2, hac0, hdec⟩ := hh.out
    clear hh
    have a0 : 0 ≤ a := by omega
    have a1 : a ≤ 255 := by omega
    by_cases hkn : k < t.size
    · have a2 : a ≤ 15 := by have := hac2 (by omega); omega
      have hc := hB k hkn
      have hdrop : bs.drop k = bs[k]'(by omega) :: bs.drop (k + 1) := List.drop_eq_getElem_cons (by omega)
      have hget : bs.getD k 0 = bs[k]'(by omega) := by simp [List.getD, List.getElem?_eq_getElem (show k < bs.length by omega)]
      rw [hdrop] at hdec
      rw [hget] at hc
      generalize bs[k]'(by omega) = c at hc hdec
      have hc256 : c.toNat < 256 := c.toNat_lt
      clear hB hdrop hget
      have hcl := hex_class c
      have hlow := fun W => Tryd.internal_strconv_lower (c.toNat : Int) W
      have hv0 := bits_lo_u8 .or (c.toNat : Int) 32
      have hv1 := bits_hi_u8 .or (c.toNat : Int) 32
      obtain ⟨L, hLL⟩ : ∃ L, L = bits .or .u8 (c.toNat : Int) 32 := ⟨_, rfl⟩
      rw [← hLL] at hcl hlow hv0 hv1
      clear hLL
      have bad : hexv c = -1 → hx16 0 bs = none := fun h => by
        rw [hdec]; unfold hx16; rw [h, if_neg (by decide)]
      have good : ∀ v : Int, 0 ≤ v → v ≤ 15 → hexv c = v → Hid (a * 16 + v = ((acc * 16 + v.toNat : Nat) : Int) ∧ acc * 16 + v.toNat ≤ 255 ∧ (k + 1 < 2 → acc * 16 + v.toNat ≤ 15) ∧ (k + 1 = 0 → acc * 16 + v.toNat = 0) ∧ hx16 0 bs = hx16 (acc * 16 + v.toNat) (bs.drop (k + 1))) := fun v h0 h1 h => by
        refine Lib.hid ⟨by omega, by omega, fun hk1 => ?_, fun h => by omega, ?_⟩
        · have := hac0 (by omega); omega
        · rw [hdec]
          conv => lhs; unfold hx16
          rw [h, if_pos h0]
      clear hdec hac0 hac2 hacc
      have st : ∀ v : Int, 0 ≤ v → v ≤ 15 → IntKind.u8.wrap v = v := fun v h0 h1 => by rw [IntKind.wrap_u8]; omega
      rcases hcl with ⟨b0, b1, b2⟩ | ⟨n95, b0, b1, b2, b3⟩ | ⟨n95, b0, b1, b2, b3⟩ | ⟨n95, b0, b1, b2⟩ | ⟨n95, b0, b1, b2⟩ | ⟨e95, b1, b2⟩
      · have HN := good ((c.toNat : Int) - 48) (by omega) (by omega) b2
        clear bad good b2 hlow
        have n95 : ¬ ((c.toNat : Int) = 95) := by omega
        clear ha st
        go_wp2
        refine ⟨⟨k + 1, acc * 16 + ((c.toNat : Int) - 48).toNat, a * 16 + ((c.toNat : Int) - 48), rfl, (by first | rfl | (congr 1; omega)), (by first | rfl | (congr 1; omega)), by omega, HN⟩, by simp [intOf]; omega⟩
      · have HN := good (L - 97 + 10) (by omega) (by omega) b3
        have n95i : ¬ ((c.toNat : Int) = 95) := by omega
        clear bad good b3 ha
        go_wp2_with (go_at_call 82; refine (hlow _).mono ?_; rintro e w' ⟨rfl, rfl⟩)
        all_goals refine ⟨⟨k + 1, acc * 16 + (L - 97 + 10).toNat, a * 16 + (L - 97 + 10), rfl, (by first | rfl | (congr 1; omega)), (by first | rfl | (congr 1; omega)), by omega, HN⟩, by simp [intOf]; omega⟩
      · have HN := Lib.hid (bad b3)
        have n95i : ¬ ((c.toNat : Int) = 95) := by omega
        clear bad good b3 ha
        go_wp2_with (go_at_call 82; refine (hlow _).mono ?_; rintro e w' ⟨rfl, rfl⟩)
        all_goals go_ret2
        all_goals exact ⟨by rw [HN.out]; rfl, rfl⟩
      · have HN := Lib.hid (bad b2)
        have n95i : ¬ ((c.toNat : Int) = 95) := by omega
        clear bad good b2 ha
        go_wp2_with (go_at_call 82; refine (hlow _).mono ?_; rintro e w' ⟨rfl, rfl⟩)
        all_goals go_ret2
        all_goals exact ⟨by rw [HN.out]; rfl, rfl⟩
      · have HN := Lib.hid (bad b2)
        have n95i : ¬ ((c.toNat : Int) = 95) := by omega
        clear bad good b2 ha
        go_wp2_with (go_at_call 82; refine (hlow _).mono ?_; rintro e w' ⟨rfl, rfl⟩)
        all_goals go_ret2
        all_goals exact ⟨by rw [HN.out]; rfl, rfl⟩
      · have HN := Lib.hid (bad b2)
        have e95i : (c.toNat : Int) = 95 := by omega
        rw [e95i] at hc hlow
        clear bad good b2 ha e95 e95i hc256
        go_wp2_with (go_at_call 82; refine (hlow _).mono ?_; rintro e w' ⟨rfl, rfl⟩)
        all_goals go_ret2
        all_goals exact ⟨by rw [HN.out]; rfl, rfl⟩
    · have hkk : k = t.size := by omega
      subst hkk
      rw [List.drop_eq_nil_of_le (by omega)] at hdec
      have HF := Lib.hid (hdec.trans (show hx16 acc [] = some acc from rfl))
      subst ha
      clear hacc hdec a0 a1 hac2 hac0
      go_wp2
      go_ret2
      exact ⟨by rw [HF.out]; rfl, rfl⟩
end Go.Proofs.YtpicenopiigfpaaDoor
