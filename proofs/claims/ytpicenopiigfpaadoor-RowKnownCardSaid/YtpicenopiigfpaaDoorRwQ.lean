/-
  The reference of rows, second part: Write; condition: strings of at most 100000000 bytes.
-/
import Derived.Test.YtpicenopiigfpaaDoorRwP
import Derived.Test.YtpicenopiigfpaaDoorRwK
import Derived.Test.YtpicenopiigfpaaDoorRwQt
namespace Go.Proofs.YtpicenopiigfpaaDoor
open Go.RowKit
set_option linter.unusedVariables false
set_option linter.unusedSimpArgs false

theorem hexl_ext (n : Nat) (hn : n < 16) : (⟨#[48, 49, 50, 51, 52, 53, 54, 55, 56, 57, 97, 98, 99, 100, 101, 102]⟩ : ByteArray).extract n (n + 1) = mkB [hexl n] := by
  rw [ext_one _ n (by exact hn), hexls_at n hn]

set_option maxRecDepth 100000 in
set_option maxHeartbeats 4000000 in
theorem rWrite (s : ByteArray) (hs : s.size ≤ 100000000) (w : World) :
    Calls Tryd.prog 28 #[.string s] w fun e w' => e = .returned (.string (mkB (wrW s.data.toList))) ∧ Below w.heap.size w w' := by
  have hba := rBare s w (by omega)
  cases hb : bareW s.data.toList
  · have hw : wrW s.data.toList = 34 :: (wrQ s.data.toList ++ [34]) := by unfold wrW; rw [hb, if_neg (by decide)]
    rw [hb] at hba
    have HW := Lib.hid hw
    clear hw hb
    go_enter Tryd.func28, Tryd.ntmps28
    go_wp2_with (fail)
    refine hba.mono ?_
    rintro e W1 ⟨rfl, q, rfl⟩
    clear hba
    go_wp2_with (fail)
    go_loopw [3, 4] (fun ov iv wr => ∃ k : Nat, k ≤ s.size ∧ iv = .int .i64 (k : Int) ∧ ov = .string (mkB (34 :: wrQ (s.data.toList.take k))) ∧ Below w.heap.size w wr) (fun _ iv _ => s.size - (intOf iv).toNat)
    case atStart => exact ⟨0, Nat.zero_le _, rfl, rfl, below_drewN (Below.refl _ _) _⟩
    case round =>
      obtain ⟨k, hk, rfl, rfl, hbel⟩ := hrel
      have hle := wrQ_len (s.data.toList.take k)
      rw [List.length_take] at hle
      have hoz : (34 :: wrQ (s.data.toList.take k)).length ≤ 3000000000 := by rw [List.length_cons]; omega
      by_cases hlt : k < s.size
      · obtain ⟨x, hx⟩ : ∃ x, x = s[k] := ⟨_, rfl⟩
        have hxs : s[k] = x := hx.symm
        have hxb := u8_bound x
        have hx0 : 0 ≤ (x.toNat : Int) := by omega
        have hxn : x.toNat < 256 := x.toNat_lt
        have htk := take_at s k hlt
        have hex := ext_one s k hlt
        rw [hxs] at htk hex
        obtain ⟨o, ho⟩ : ∃ o, o = 34 :: wrQ (s.data.toList.take k) := ⟨_, rfl⟩
        have e : 34 :: wrQ (s.data.toList.take (k + 1)) = o ++ wr1 x := by rw [htk, wrQ_snoc, ho]; rfl
        rw [← ho] at hoz
        rw [← ho]
        have m0 : (mkB o).size = o.length := mkB_size _
        have HR := Lib.hid (And.intro hbel (And.intro e ho))
        clear hbel htk e ho hle hx
        have hii : (k : Int) < s.size := by omega
        have hi0 : (0 : Int) ≤ k := by omega
        by_cases hq : x = 34 ∨ x = 92
        · have hw1 : wr1 x = [92, x] := by unfold wr1; rw [if_pos hq]
          have HX := Lib.hid hw1
          have c1 : mkB o ++ (⟨#[92]⟩ : ByteArray) = mkB (o ++ [92]) := mkB_append o [92]
          have c2 : mkB (o ++ [92]) ++ mkB [x] = mkB (o ++ [92, x]) := by rw [mkB_append]; simp
          have m1 : (mkB (o ++ [92])).size = o.length + 1 := by rw [mkB_size]; simp
          have m2 : (mkB [x]).size = 1 := mkB_size _
          have hway : ((x.toNat : Int) == 34) = true ∨ ((x.toNat : Int) == 34) = false ∧ ((x.toNat : Int) == 92) = true := by
            rcases hq with rfl | rfl
            · exact .inl rfl
            · exact .inr ⟨rfl, rfl⟩
          clear hw1 hq
          rcases hway with b1 | ⟨b1, b2⟩
          all_goals
            go_wp2_with (fail)
            go_roundw
            case rel =>
              refine ⟨k + 1, by omega, rfl, ?_, HR.out.1⟩
              rw [HR.out.2.1, HX.out]
            case measure => simp [intOf]; omega
        · have b1 : ((x.toNat : Int) == 34) = false := beq_eq_false_iff_ne.2 (by have : x.toNat ≠ 34 := fun e => hq (.inl (UInt8.toNat_inj.1 (by rw [e]; rfl))); omega)
          have b2 : ((x.toNat : Int) == 92) = false := beq_eq_false_iff_ne.2 (by have : x.toNat ≠ 92 := fun e => hq (.inr (UInt8.toNat_inj.1 (by rw [e]; rfl))); omega)
          by_cases hp : 32 ≤ x.toNat ∧ x.toNat ≤ 126
          · have hw1 : wr1 x = [x] := by unfold wr1; rw [if_neg hq, if_pos hp]
            have HX := Lib.hid hw1
            have m2 : (mkB [x]).size = 1 := mkB_size _
            have c1 : mkB o ++ mkB [x] = mkB (o ++ [x]) := mkB_append _ _
            have b3 : (32 : Int) ≤ x.toNat := by omega
            have b4 : (x.toNat : Int) < 127 := by omega
            clear hw1 hq hp
            go_wp2_with (fail)
            go_roundw
            case rel =>
              refine ⟨k + 1, by omega, rfl, ?_, HR.out.1⟩
              rw [HR.out.2.1, HX.out]
            case measure => simp [intOf]; omega
          · have hw1 : wr1 x = [92, 120, hexl (x.toNat / 16), hexl (x.toNat % 16)] := by unfold wr1; rw [if_neg hq, if_neg hp]
            have HX := Lib.hid hw1
            have h1 := hexl_ext (x.toNat / 16) (by omega)
            have h2 := hexl_ext (x.toNat % 16) (by omega)
            have w1 : IntKind.u8.wrap ((x.toNat : Int) / 16) = (x.toNat : Int) / 16 := IntWalk.u8_in _ (by omega)
            have w2 : IntKind.u8.wrap ((x.toNat : Int) % 16) = (x.toNat : Int) % 16 := IntWalk.u8_in _ (by omega)
            have w1b : IntKind.u8.wrap ((x.toNat : Int) / 16 + 1) = (x.toNat : Int) / 16 + 1 := IntWalk.u8_in _ (by omega)
            have w2b : IntKind.u8.wrap ((x.toNat : Int) % 16 + 1) = (x.toNat : Int) % 16 + 1 := IntWalk.u8_in _ (by omega)
            have w3 : (x.toNat : Int) / 16 < 16 := by omega
            have w4 : (x.toNat : Int) % 16 < 16 := by omega
            have w5 : 0 ≤ (x.toNat : Int) / 16 := by omega
            have w6 : 0 ≤ (x.toNat : Int) % 16 := by omega
            have w7 : ((x.toNat : Int) / 16).toNat = x.toNat / 16 := by omega
            have w8 : ((x.toNat : Int) % 16).toNat = x.toNat % 16 := by omega
            have w7b : ((x.toNat : Int) / 16 + 1).toNat = x.toNat / 16 + 1 := by omega
            have w8b : ((x.toNat : Int) % 16 + 1).toNat = x.toNat % 16 + 1 := by omega
            have w9 : (x.toNat : Int).tmod 16 = (x.toNat : Int) % 16 := Int.tmod_eq_emod_of_nonneg hx0
            have c1 : mkB o ++ (⟨#[92, 120]⟩ : ByteArray) = mkB (o ++ [92, 120]) := mkB_append o [92, 120]
            have c2 : mkB (o ++ [92, 120]) ++ mkB [hexl (x.toNat / 16)] = mkB (o ++ [92, 120, hexl (x.toNat / 16)]) := by rw [mkB_append]; simp
            have c3 : mkB (o ++ [92, 120, hexl (x.toNat / 16)]) ++ mkB [hexl (x.toNat % 16)] = mkB (o ++ [92, 120, hexl (x.toNat / 16), hexl (x.toNat % 16)]) := by rw [mkB_append]; simp
            have m1 : (mkB (o ++ [92, 120])).size = o.length + 2 := by rw [mkB_size]; simp
            have m2 : (mkB (o ++ [92, 120, hexl (x.toNat / 16)])).size = o.length + 3 := by rw [mkB_size]; simp
            have m3 : (mkB [hexl (x.toNat / 16)]).size = 1 := mkB_size _
            have m4 : (mkB [hexl (x.toNat % 16)]).size = 1 := mkB_size _
            have q0 : ¬ (9223372036854775807 < o.length + 2) := by omega
            have q1 : ¬ (9223372036854775807 < o.length + 2 + 1) := by omega
            have q2 : ¬ (9223372036854775807 < o.length + 3 + 1) := by omega
            by_cases h32 : 32 ≤ x.toNat
            · have b3 : (32 : Int) ≤ x.toNat := by omega
              have b4 : ¬ (x.toNat : Int) < 127 := by omega
              clear hw1 hq hp h32
              go_wp2_with (fail)
              go_quiet (fail)
              go_wp2_with (fail)
              go_roundw
              case rel =>
                refine ⟨k + 1, by omega, rfl, ?_, below_drewN HR.out.1 _⟩
                rw [HR.out.2.1, HX.out]
              case measure => simp [intOf]; omega
            · have b3 : ¬ (32 : Int) ≤ x.toNat := by omega
              clear hw1 hq hp h32
              go_wp2_with (fail)
              go_quiet (fail)
              go_wp2_with (fail)
              go_roundw
              case rel =>
                refine ⟨k + 1, by omega, rfl, ?_, below_drewN HR.out.1 _⟩
                rw [HR.out.2.1, HX.out]
              case measure => simp [intOf]; omega
      · have hke : k = s.size := by omega
        have ht : s.data.toList.take k = s.data.toList := List.take_of_length_le (by rw [size_data]; omega)
        rw [ht] at hoz ⊢
        obtain ⟨o, ho⟩ : ∃ o, o = 34 :: wrQ s.data.toList := ⟨_, rfl⟩
        rw [← ho] at hoz ⊢
        have m0 : (mkB o).size = o.length := mkB_size _
        have c1 : mkB o ++ (⟨#[34]⟩ : ByteArray) = mkB (o ++ [34]) := mkB_append o [34]
        have A := Lib.hid (And.intro hbel ho)
        clear hbel hke ht ho
        go_wp2_with (fail)
        go_ret
        exact ⟨by rw [HW.out, A.out.2]; rfl, A.out.1⟩
  · have hw : wrW s.data.toList = s.data.toList := by unfold wrW; rw [hb, if_pos rfl]
    rw [hb] at hba
    have HW := Lib.hid hw
    clear hw hb
    go_enter Tryd.func28, Tryd.ntmps28
    go_wp2_with (fail)
    refine hba.mono ?_
    rintro e W1 ⟨rfl, q, rfl⟩
    clear hba
    go_wp2_with (fail)
    go_ret
    exact ⟨by rw [HW.out, mkB_of]; rfl, below_drewN (Below.refl _ _) _⟩
end Go.Proofs.YtpicenopiigfpaaDoor
