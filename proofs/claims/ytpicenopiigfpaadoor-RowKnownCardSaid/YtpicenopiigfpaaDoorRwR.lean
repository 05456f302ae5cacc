/-
  The reference of rows, third part: quoted; condition: strings of at most 1000000000 bytes.
-/
import Derived.Test.YtpicenopiigfpaaDoorRwP
import Derived.Test.YtpicenopiigfpaaDoorRwQt
import Derived.Deep.RegionWith
import Derived.Deep.RegionLaw
import Derived.StillTailTactics
namespace Go.Proofs.YtpicenopiigfpaaDoor
open Go.RowKit
set_option linter.unusedVariables false
set_option linter.unusedSimpArgs false

def quoV (r : Option (List UInt8 × Nat)) : Value := match r with
  | some r => .tuple #[.string (mkB r.1), .int .i64 ((r.2 + 1 : Nat) : Int)]
  | none => .tuple #[.string ⟨#[]⟩, .int .i64 0]
theorem run_one_string {P : Program} (W : World) (src dst e : TypeId) (b c : Nat) (x : UInt8) (hs : P.underlying src = some (.slice e)) (he : P.underlying e = some (.int .u8)) (hd : P.underlying dst = some .string)
    (h : W.cell? ⟨b, 0, none⟩ = some (.int .u8 (x.toNat : Int))) : (convert src dst (.slice (some ⟨b, 0, none⟩) 1 c)).run P W = .ok (.string (mkB [x])) W := by
  have := run_convert_bytes_back (P := P) W src dst e ⟨b, 0, none⟩ c [x] hs he hd (fun j hj => by
    have : j = 0 := by simp at hj; omega
    subst this
    exact h)
  exact this

set_option maxRecDepth 100000 in
set_option maxHeartbeats 4000000 in
theorem rquoted (s : ByteArray) (k0 : Nat) (w : World) (hs : s.size ≤ 1000000000) (hk0 : k0 < s.size) :
    Calls Tryd.prog 60 #[.string s, .int .i64 (k0 : Int)] w fun e w' => e = .returned (quoV (quo (s.data.toList.drop (k0 + 1)))) ∧ Below w.heap.size w w' := by
  go_enter Tryd.func60, Tryd.ntmps60
  go_wp2_with (fail)
  go_loopw [6, 7] (fun ov iv wr => ∃ (xs : List UInt8) (k : Nat), QAt s k0 xs k ∧ ov = .string (mkB xs) ∧ iv = .int .i64 (k : Int) ∧ Below w.heap.size w wr) (fun _ iv _ => s.size - (intOf iv).toNat)
  case atStart => exact ⟨[], k0 + 1, QAt.start hk0, rfl, rfl, Below.refl _ _⟩
  case round =>
    obtain ⟨xs, k, hat, rfl, rfl, hbel⟩ := hrel
    have hki0 : (0 : Int) ≤ k := by omega
    have hki1 : (k : Int) ≤ 1000000000 := by have := hat.1; omega
    have hkk : (k0 : Int) + 1 ≤ k := by have := hat.2.1; omega
    have hxl : xs.length ≤ 1000000000 := by have := hat.1; have := hat.2.2.1; omega
    have m0 : (mkB xs).size = xs.length := mkB_size _
    have A := Lib.hid (And.intro hat hbel)
    clear hat hbel
    rcases quo_cases (s.data.toList.drop k) with h | ⟨t, h⟩ | ⟨c, t, h, h1, h2, h3, h4⟩ | ⟨c, t, h, h3⟩ | h | ⟨d, u, h, hd⟩ | ⟨a, b, v, h, ha, hb⟩ | ⟨a, b, v, h, hab⟩ | ⟨u, h, hl2⟩ | ⟨d, u, h, h1, h2, h3⟩
    · have hke : k = s.size := by
        have hl := congrArg List.length h
        rw [List.length_drop, size_data, List.length_nil] at hl
        have := A.out.1.1; omega
      have H := Lib.hid (A.out.1.no (by rw [h, quo_nil]))
      have hlt : ¬ (k : Int) < s.size := by omega
      clear h hke
      go_wp2_with (fail)
      go_ret2
      exact ⟨by rw [H.out]; rfl, A.out.2⟩
    · obtain ⟨hlt, hx, hdr⟩ := at_one h
      have hii : (k : Int) < s.size := by omega
      have H := Lib.hid (A.out.1.done h)
      clear h hdr
      go_wp2_with (fail)
      go_ret2
      have e : ((k + 1 - (k0 + 1) + 1 : Nat) : Int) = (k : Int) + 1 - k0 := by omega
      refine ⟨by rw [H.out]; show _ = Ending.returned (.tuple #[.string (mkB xs), .int .i64 ((k + 1 - (k0 + 1) + 1 : Nat) : Int)]); rw [e]; rfl, A.out.2⟩
    · obtain ⟨hlt, hx, hdr⟩ := at_one h
      have hii : (k : Int) < s.size := by omega
      have hcb := u8_bound c
      have b1 : ((c.toNat : Int) == 34) = false := beq_eq_false_iff_ne.2 (by have := u8_ne (n := 34) (by decide) h1; omega)
      have b2 : ((c.toNat : Int) != 92) = true := by have := u8_ne (n := 92) (by decide) h2; simp; omega
      have b3 : ¬ (c.toNat : Int) < 32 := by omega
      have b4 : ¬ 126 < (c.toNat : Int) := by omega
      have hex := ext_one s k hlt
      rw [hx] at hex
      have c1 : mkB xs ++ mkB [c] = mkB (xs ++ [c]) := mkB_append _ _
      have m2 : (mkB [c]).size = 1 := mkB_size _
      have H := Lib.hid (A.out.1.step (m := 1) hlt (by decide) hdr (by rw [h]; exact quo_plain h1 h2 ⟨h3, h4⟩))
      clear h h1 h2 h3 h4 hdr
      go_wp2_with (fail)
      go_roundw
      case rel => exact ⟨xs ++ [c], k + 1, H.out, rfl, rfl, A.out.2⟩
      case measure => simp [intOf]; omega
    · obtain ⟨hlt, hx, hdr⟩ := at_one h
      have hii : (k : Int) < s.size := by omega
      have hcb := u8_bound c
      have b1 : ((c.toNat : Int) == 34) = false := beq_eq_false_iff_ne.2 (by omega)
      have H := Lib.hid (A.out.1.no (by rw [h]; exact quo_wrong h3))
      clear h hdr
      by_cases h5 : (c.toNat : Int) < 32
      · clear h3
        go_wp2_with (fail)
        go_ret2
        exact ⟨by rw [H.out]; rfl, A.out.2⟩
      · have h6 : 126 < (c.toNat : Int) := by omega
        clear h3
        go_wp2_with (fail)
        go_ret2
        exact ⟨by rw [H.out]; rfl, A.out.2⟩
    · obtain ⟨hlt, hx, hdr⟩ := at_one h
      have hii : (k : Int) < s.size := by omega
      have hke : k + 1 = s.size := by
        have hl := congrArg List.length hdr
        rw [List.length_drop, size_data, List.length_nil] at hl
        omega
      have n1 : ¬ (k : Int) + 1 < s.size := by omega
      have n3 : ¬ (k : Int) + 3 < s.size := by omega
      have H := Lib.hid (A.out.1.no (by rw [h, quo_last]))
      clear h hdr hke
      go_wp2_with (fail)
      go_ret2
      exact ⟨by rw [H.out]; rfl, A.out.2⟩
    · obtain ⟨hlt, hx, hdr⟩ := at_one h
      obtain ⟨hlt1, hx1, hdr1⟩ := at_one hdr
      have hii : (k : Int) < s.size := by omega
      have hii1 : (k : Int) + 1 < s.size := by omega
      have hcb := u8_bound d
      have hex := ext_one s (k + 1) hlt1
      rw [hx1] at hex
      have c1 : mkB xs ++ mkB [d] = mkB (xs ++ [d]) := mkB_append _ _
      have m2 : (mkB [d]).size = 1 := mkB_size _
      have H := Lib.hid (A.out.1.step (m := 2) hlt1 (by decide) hdr1 (by rw [h]; exact quo_esc hd))
      have hway : ((d.toNat : Int) == 34) = true ∨ ((d.toNat : Int) == 34) = false ∧ ((d.toNat : Int) == 92) = true := by
        rcases hd with rfl | rfl
        · exact .inl rfl
        · exact .inr ⟨rfl, rfl⟩
      clear h hdr hdr1 hd
      rcases hway with b1 | ⟨b1, b2⟩
      all_goals
        go_wp2_with (fail)
        go_roundw
        case rel => exact ⟨xs ++ [d], k + 2, H.out, rfl, rfl, A.out.2⟩
        case measure => simp [intOf]; omega
    · obtain ⟨hlt, hx, hdr⟩ := at_one h
      obtain ⟨hlt1, hx1, hdr1⟩ := at_one hdr
      obtain ⟨hlt2, hx2, hdr2⟩ := at_one hdr1
      obtain ⟨hlt3, hx3, hdr3⟩ := at_one hdr2
      have hii : (k : Int) < s.size := by omega
      have hii1 : (k : Int) + 1 < s.size := by omega
      have hii2 : (k : Int) + 2 < s.size := by omega
      have hii3 : (k : Int) + 3 < s.size := by omega
      have hba := hexv_bound a
      have hbb := hexv_bound b
      have hev := escV_int a b ha hb
      have c1 : mkB xs ++ mkB [escV a b] = mkB (xs ++ [escV a b]) := mkB_append _ _
      have m2 : (mkB [escV a b]).size = 1 := mkB_size _
      have H := Lib.hid (A.out.1.step (m := 4) hlt3 (by decide) hdr3 (by rw [h]; exact quo_hex ⟨ha, hb⟩))
      clear h hdr hdr1 hdr2 hdr3
      go_wp2_with (go_at_call 73; refine (rvalue4 _ _).mono ?_; rintro e w' ⟨rfl, rfl⟩)
      have w1 : IntKind.i64.wrap ((k : Int) + 2) = (k : Int) + 2 := IntWalk.i64_in _ (by omega)
      have w2 : IntKind.i64.wrap ((k : Int) + 3) = (k : Int) + 3 := IntWalk.i64_in _ (by omega)
      have w3 : IntKind.i64.wrap (16 * hexv a) = 16 * hexv a := IntWalk.i64_in _ (by omega)
      have w4 : IntKind.i64.wrap (16 * hexv a + hexv b) = 16 * hexv a + hexv b := IntWalk.i64_in _ (by omega)
      have w5 : (0 : Int) ≤ (k : Int) + 2 := by omega
      have w6 : (0 : Int) ≤ (k : Int) + 3 := by omega
      have w7 : ((k : Int) + 2).toNat = k + 2 := by omega
      have w8 : ((k : Int) + 3).toNat = k + 3 := by omega
      have w9 : IntKind.u8.wrap (16 * hexv a + hexv b) = 16 * hexv a + hexv b := by rw [IntKind.wrap_u8']; omega
      have hcv := fun (W : World) => run_one_string (P := Tryd.prog) (W.alloc (.cells #[.int .u8 (16 * hexv a + hexv b)] 5)).drew 65 9 5 W.heap.size 1 (escV a b) Tryd.underlying65 Tryd.underlying5 Tryd.underlying9 (by rw [hev]; exact (Blk.new W 5 _).cell' rfl)
      have q0 : ¬ 9223372036854775807 < xs.length + 1 := by omega
      have HE := Lib.hid hev
      clear hev
      go_region_law (go_simp; go_at_call 73; refine (rvalue4 _ _).mono ?_; rintro e w' ⟨rfl, rfl⟩)
      all_goals
        go_wp2_with (fail)
        go_roundw
        case rel => exact ⟨xs ++ [escV a b], k + 4, H.out, rfl, rfl, gr_drew (gr_alloc A.out.2 _)⟩
        case measure => simp [intOf]; omega
    · obtain ⟨hlt, hx, hdr⟩ := at_one h
      obtain ⟨hlt1, hx1, hdr1⟩ := at_one hdr
      obtain ⟨hlt2, hx2, hdr2⟩ := at_one hdr1
      obtain ⟨hlt3, hx3, hdr3⟩ := at_one hdr2
      have hii : (k : Int) < s.size := by omega
      have hii1 : (k : Int) + 1 < s.size := by omega
      have hii2 : (k : Int) + 2 < s.size := by omega
      have hii3 : (k : Int) + 3 < s.size := by omega
      have H := Lib.hid (A.out.1.no (by rw [h]; exact quo_nohex hab))
      clear h hdr hdr1 hdr2 hdr3
      by_cases ha : 0 ≤ hexv a
      · have hb : ¬ 0 ≤ hexv b := fun hb => hab ⟨ha, hb⟩
        clear hab
        go_wp2_with (go_at_call 73; refine (rvalue4 _ _).mono ?_; rintro e w' ⟨rfl, rfl⟩)
        go_ret2
        exact ⟨by rw [H.out]; rfl, A.out.2⟩
      · clear hab
        go_wp2_with (go_at_call 73; refine (rvalue4 _ _).mono ?_; rintro e w' ⟨rfl, rfl⟩)
        go_ret2
        exact ⟨by rw [H.out]; rfl, A.out.2⟩
    · obtain ⟨hlt, hx, hdr⟩ := at_one h
      obtain ⟨hlt1, hx1, hdr1⟩ := at_one hdr
      have hii : (k : Int) < s.size := by omega
      have hii1 : (k : Int) + 1 < s.size := by omega
      have hii3 : ¬ (k : Int) + 3 < s.size := by
        have hl := congrArg List.length hdr1
        rw [List.length_drop, size_data] at hl
        omega
      have H := Lib.hid (A.out.1.no (by rw [h]; exact quo_short hl2))
      clear h hdr hdr1 hl2
      go_wp2_with (fail)
      go_ret2
      exact ⟨by rw [H.out]; rfl, A.out.2⟩
    · obtain ⟨hlt, hx, hdr⟩ := at_one h
      obtain ⟨hlt1, hx1, hdr1⟩ := at_one hdr
      have hii : (k : Int) < s.size := by omega
      have hii1 : (k : Int) + 1 < s.size := by omega
      have hcb := u8_bound d
      have b1 : ((d.toNat : Int) == 34) = false := beq_eq_false_iff_ne.2 (by have := u8_ne (n := 34) (by decide) h1; omega)
      have b2 : ((d.toNat : Int) == 92) = false := beq_eq_false_iff_ne.2 (by have := u8_ne (n := 92) (by decide) h2; omega)
      have b3 : ((d.toNat : Int) == 120) = false := beq_eq_false_iff_ne.2 (by have := u8_ne (n := 120) (by decide) h3; omega)
      have H := Lib.hid (A.out.1.no (by rw [h]; exact quo_other h1 h2 h3))
      clear h hdr hdr1 h1 h2 h3
      by_cases hii3 : (k : Int) + 3 < s.size
      all_goals
        go_wp2_with (fail)
        go_ret2
        exact ⟨by rw [H.out]; rfl, A.out.2⟩
end Go.Proofs.YtpicenopiigfpaaDoor
