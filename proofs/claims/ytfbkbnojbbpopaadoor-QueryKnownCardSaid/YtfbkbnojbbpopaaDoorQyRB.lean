/-
  The reference of queries, second part: Encode, Check, Literal, cut; conditions: lengths.
-/
import Derived.Test.YtfbkbnojbbpopaaDoorQyRA
import Derived.Test.YtfbkbnojbbpopaaDoorPctRefB
namespace Go.Proofs.YtfbkbnojbbpopaaDoor
open Go.RowKit
set_option linter.unusedVariables false
set_option linter.unusedSimpArgs false

theorem ext_one (s : ByteArray) (k : Nat) (h : k < s.size) : s.extract k (k + 1) = mkB [s[k]] := by
  apply str_ext
  rw [Lib.extract_data, mkB_data]
  rw [drop_at s k h]
  rw [show k + 1 - k = 1 by omega]
  rfl
theorem hex_ext : ∀ n : Nat, n < 16 → (⟨#[48, 49, 50, 51, 52, 53, 54, 55, 56, 57, 65, 66, 67, 68, 69, 70]⟩ : ByteArray).extract n (n + 1) = mkB [hexd n] := by
  intro n hn
  rw [ext_one _ n (by exact hn), hexs_at n hn]

def REncR (s : ByteArray) (w0 : World) (ov iv : Value) (wr : World) : Prop := ∃ k : Nat, k ≤ s.size ∧ iv = .int .i64 (k : Int) ∧ ov = .string (mkB (encQ (s.data.toList.take k))) ∧ Below w0.heap.size w0 wr
set_option maxRecDepth 100000 in
set_option maxHeartbeats 4000000 in
theorem rencodeQ (s : ByteArray) (hs : s.size ≤ 1000000000) (w : World) :
    Calls Tryd.prog 18 #[.string s] w fun e w' => e = .returned (.string (mkB (encQ s.data.toList))) ∧ Below w.heap.size w w' := by
  go_enter Tryd.func18, Tryd.ntmps18
  go_wp2_with (fail)
  go_loopw [3, 4] (fun ov iv wr => REncR s w ov iv wr) (fun _ iv _ => s.size - (intOf iv).toNat)
  case atStart => exact ⟨0, Nat.zero_le _, rfl, rfl, Below.refl _ _⟩
  case round =>
    obtain ⟨k, hk, rfl, rfl, hbel⟩ := hrel
    have hle := encQ_len (s.data.toList.take k)
    rw [List.length_take] at hle
    have hoz : (mkB (encQ (s.data.toList.take k))).size ≤ 3000000000 := by rw [mkB_size]; omega
    by_cases hlt : k < s.size
    · obtain ⟨x, hx⟩ : ∃ x, x = s[k] := ⟨_, rfl⟩
      have hxs : s[k] = x := hx.symm
      have hxb := u8_bound x
      have hx0 : 0 ≤ (x.toNat : Int) := by omega
      have hxn : x.toNat < 256 := x.toNat_lt
      have htk := take_at s k hlt
      have hex := ext_one s k hlt
      rw [hxs] at htk hex
      have e : encQ (s.data.toList.take (k + 1)) = encQ (s.data.toList.take k) ++ enc1 x := by rw [htk, encQ_append, encQ_one]
      obtain ⟨o, ho⟩ : ∃ o, o = encQ (s.data.toList.take k) := ⟨_, rfl⟩
      rw [← ho] at e hoz
      rw [← ho]
      have HR := Lib.hid (And.intro hbel (And.intro e ho))
      clear hbel htk e ho hle hx
      have hii : (k : Int) < s.size := by omega
      have hi0 : (0 : Int) ≤ k := by omega
      cases hst : stB x
      · have he1 := enc1_no hst
        have HX := Lib.hid (And.intro hst he1)
        clear hst he1
        have h1 := hex_ext (x.toNat / 16) (by omega)
        have h2 := hex_ext (x.toNat % 16) (by omega)
        have w1 : IntKind.u8.wrap ((x.toNat : Int) / 16) = (x.toNat : Int) / 16 := IntWalk.u8_in _ (by omega)
        have w2 : IntKind.u8.wrap ((x.toNat : Int) % 16) = (x.toNat : Int) % 16 := IntWalk.u8_in _ (by omega)
        have w1b : IntKind.u8.wrap ((x.toNat : Int) / 16 + 1) = (x.toNat : Int) / 16 + 1 := IntWalk.u8_in _ (by omega)
        have w2b : IntKind.u8.wrap ((x.toNat : Int) % 16 + 1) = (x.toNat : Int) % 16 + 1 := IntWalk.u8_in _ (by omega)
        have w3 : (x.toNat : Int) / 16 < 16 := by omega
        have w4 : (x.toNat : Int) % 16 < 16 := by omega
        have w5 : 0 ≤ (x.toNat : Int) / 16 := by omega
        have w6 : 0 ≤ (x.toNat : Int) % 16 := by omega
        have w7 : ((x.toNat : Int) / 16).toNat = x.toNat / 16 := by omega
        have w8 : ((x.toNat : Int) % 16).toNat = x.toNat % 16 := by omega
        have w7b : ((x.toNat : Int) / 16 + 1).toNat = x.toNat / 16 + 1 := by omega
        have w8b : ((x.toNat : Int) % 16 + 1).toNat = x.toNat % 16 + 1 := by omega
        have w9 : (x.toNat : Int).tmod 16 = (x.toNat : Int) % 16 := Int.tmod_eq_emod_of_nonneg hx0
        have z0 : o.length ≤ 3000000000 := by rw [mkB_size] at hoz; exact hoz
        have c1 : mkB o ++ (⟨#[37]⟩ : ByteArray) = mkB (o ++ [37]) := mkB_append o [37]
        have c2 : mkB (o ++ [37]) ++ mkB [hexd (x.toNat / 16)] = mkB (o ++ [37, hexd (x.toNat / 16)]) := by rw [mkB_append]; simp
        have c3 : mkB (o ++ [37, hexd (x.toNat / 16)]) ++ mkB [hexd (x.toNat % 16)] = mkB (o ++ [37, hexd (x.toNat / 16), hexd (x.toNat % 16)]) := by rw [mkB_append]; simp
        have m1 : (mkB (o ++ [37])).size = o.length + 1 := by rw [mkB_size]; simp
        have m2 : (mkB (o ++ [37, hexd (x.toNat / 16)])).size = o.length + 2 := by rw [mkB_size]; simp
        have m3 : (mkB [hexd (x.toNat / 16)]).size = 1 := mkB_size _
        have m4 : (mkB [hexd (x.toNat % 16)]).size = 1 := mkB_size _
        have m0 : (mkB o).size = o.length := mkB_size _
        have q0 : ¬ (9223372036854775807 < o.length + 1) := by omega
        have q1 : ¬ (9223372036854775807 < o.length + 1 + 1) := by omega
        have q2 : ¬ (9223372036854775807 < o.length + 2 + 1) := by omega
        go_wp2_with (fail)
        refine (rstays x.toNat hxn _).mono ?_
        rintro e W1 ⟨rfl, rfl⟩
        rw [show stP x.toNat = false from HX.out.1]
        go_wp2_with (fail)
        go_quiet (fail)
        go_wp2_with (fail)
        go_roundw
        case rel =>
          refine ⟨k + 1, by omega, rfl, ?_, below_drewN HR.out.1 _⟩
          rw [HR.out.2.1, HX.out.2]
        case measure => simp [intOf]; omega
      · have he1 := enc1_yes hst
        have HX := Lib.hid (And.intro hst he1)
        clear hst he1
        have m4 : (mkB [x]).size = 1 := mkB_size _
        have c1 : mkB o ++ mkB [x] = mkB (o ++ [x]) := mkB_append _ _
        go_wp2_with (fail)
        refine (rstays x.toNat hxn _).mono ?_
        rintro e W1 ⟨rfl, rfl⟩
        rw [show stP x.toNat = true from HX.out.1]
        go_wp2_with (fail)
        go_roundw
        case rel =>
          refine ⟨k + 1, by omega, rfl, ?_, HR.out.1⟩
          rw [HR.out.2.1, HX.out.2]
        case measure => simp [intOf]; omega
    · have hke : k = s.size := by omega
      have ht : s.data.toList.take k = s.data.toList := List.take_of_length_le (by rw [size_data]; omega)
      rw [ht]
      have A := Lib.hid hbel
      clear hbel hke ht
      go_wp2_with (fail)
      go_ret
      exact ⟨rfl, A.out⟩

set_option maxRecDepth 100000 in
set_option maxHeartbeats 1000000 in
theorem rcheckQ (s : ByteArray) (w : World) (hs : s.size ≤ 1000000000) :
    Calls Tryd.prog 20 #[.string s] w fun e w' => e = .returned (.int .i64 (chkL s.data.toList)) ∧ w' = w := by
  by_cases h0 : 128 < s.size
  · have hc : chkL s.data.toList = 4 := by unfold chkL; rw [if_pos (by rw [size_data]; exact h0)]
    rw [hc]
    have h0' : (128 : Int) < s.size := by omega
    go_enter Tryd.func20, Tryd.ntmps20
    go_wp2_with (fail)
    go_ret
    exact ⟨rfl, rfl⟩
  · have h0' : ¬ (128 : Int) < s.size := by omega
    have hc : chkL s.data.toList = if s.data.toList.all okQ then 0 else 3 := by unfold chkL; rw [if_neg (by rw [size_data]; exact h0)]
    have HC := Lib.hid hc
    clear hc h0
    go_enter Tryd.func20, Tryd.ntmps20
    go_wp2_with (fail)
    go_loopw [3] (fun iv wr => QChkRel s w iv ∧ wr = w) (fun iv _ => s.size - (intOf iv).toNat)
    case atStart => exact ⟨⟨0, Nat.zero_le _, rfl, rfl⟩, rfl⟩
    case round =>
      obtain ⟨⟨k, hk, rfl, hall⟩, rfl⟩ := hrel
      by_cases hlt : k < s.size
      · have ho : okQ s[k] = (decide (33 ≤ s[k].toNat) && decide (s[k].toNat ≤ 126) && decide (s[k].toNat ≠ 35)) := rfl
        obtain ⟨y, hy⟩ : ∃ y, y = s[k] := ⟨_, rfl⟩
        have hys : s[k] = y := hy.symm
        rw [← hy] at ho
        have hxb := u8_bound y
        have A := Lib.hid (And.intro hall (And.intro ho hys))
        have hii : (k : Int) < s.size := by omega
        have hi0 : (0 : Int) ≤ k := by omega
        clear hall ho hy
        by_cases h1 : y.toNat < 33
        · have h1' : (y.toNat : Int) < 33 := by omega
          go_wp2_with (fail)
          go_ret
          refine ⟨by rw [HC.out, all_not okQ s k hlt (by rw [A.out.2.2, A.out.2.1]; simp; omega)]; rfl, rfl⟩
        · by_cases h2 : 126 < y.toNat
          · have h1' : ¬ (y.toNat : Int) < 33 := by omega
            have h2' : (126 : Int) < y.toNat := by omega
            go_wp2_with (fail)
            go_ret
            refine ⟨by rw [HC.out, all_not okQ s k hlt (by rw [A.out.2.2, A.out.2.1]; simp; omega)]; rfl, rfl⟩
          · by_cases h3 : y.toNat = 35
            · have h1' : ¬ (y.toNat : Int) < 33 := by omega
              have h2' : ¬ (126 : Int) < y.toNat := by omega
              have h3' : ((y.toNat : Int) == 35) = true := beq_iff_eq.2 (by omega)
              have H3 := Lib.hid h3
              clear h3
              go_wp2_with (fail)
              go_ret
              refine ⟨by rw [HC.out, all_not okQ s k hlt (by rw [A.out.2.2, A.out.2.1, H3.out]; rfl)]; rfl, rfl⟩
            · have h1' : ¬ (y.toNat : Int) < 33 := by omega
              have h2' : ¬ (126 : Int) < y.toNat := by omega
              have h3' : ((y.toNat : Int) == 35) = false := beq_eq_false_iff_ne.2 (by omega)
              go_wp2_with (fail)
              go_roundw
              case rel =>
                refine ⟨⟨k + 1, by omega, rfl, ?_⟩, trivial⟩
                rw [all_take okQ s k hlt, A.out.1, A.out.2.2, A.out.2.1]
                simp; omega
              case measure => simp [intOf]; omega
      · have hk' : k = s.size := by omega
        subst hk'
        have A := Lib.hid hall
        clear hall
        go_wp2_with (fail)
        go_ret
        refine ⟨?_, rfl⟩
        have := A.out
        rw [List.take_of_length_le (by rw [size_data]; omega)] at this
        rw [HC.out, this]; rfl

theorem litC_iff (y : UInt8) : litC y = (stB y || decide (y.toNat = 38) || decide (y.toNat = 61) || decide (y.toNat = 43) || decide (y.toNat = 59) || decide (y.toNat = 37)) := by
  have e : ∀ c : UInt8, decide (y = c) = decide (y.toNat = c.toNat) := fun c => decide_eq_decide.2 ⟨fun h => by rw [h], fun h => UInt8.toNat.inj h⟩
  unfold litC
  rw [e 38, e 61, e 43, e 59, e 37]
  rfl
set_option maxRecDepth 100000 in
set_option maxHeartbeats 4000000 in
theorem rliteral (s : ByteArray) (w : World) (hs : s.size ≤ 1000000000) :
    Calls Tryd.prog 22 #[.string s] w fun e w' => e = .returned (.int .i64 (litE s.data.toList)) ∧ Below w.heap.size w w' := by
  go_enter Tryd.func22, Tryd.ntmps22
  go_wp2_with (fail)
  refine (rdecode s _ hs).mono ?_
  rintro e W1 ⟨rfl, h1⟩
  by_cases ho : okS s
  · rw [(rOk ho).1, (rOk ho).2.1]
    have hb := gr_alloc h1 (.cells #[.int .i64 0, .int .i64 0] 40)
    have hlit : litE s.data.toList = if s.data.toList.all litC then 0 else 3 := by
      unfold litE litB
      rw [decide_eq_true (okS_L.1 ho), Bool.true_and]
    have HL := Lib.hid hlit
    have HB := Lib.hid hb
    clear hlit hb h1 ho
    go_wp2_with (fail)
    go_loopw [5] (fun iv wr => (∃ k : Nat, k ≤ s.size ∧ iv = .int .i64 (k : Int) ∧ (s.data.toList.take k).all litC = true) ∧ Below w.heap.size w wr) (fun iv _ => s.size - (intOf iv).toNat)
    case atStart => exact ⟨⟨0, Nat.zero_le _, rfl, rfl⟩, HB.out⟩
    case round =>
      obtain ⟨⟨k, hk, rfl, hall⟩, hbel⟩ := hrel
      by_cases hlt : k < s.size
      · obtain ⟨y, hy⟩ : ∃ y, y = s[k] := ⟨_, rfl⟩
        have hys : s[k] = y := hy.symm
        have hxb := u8_bound y
        have hxn : y.toNat < 256 := y.toNat_lt
        have ht := all_take litC s k hlt
        rw [hys] at ht
        have hbad : litC y = false → litE s.data.toList = 3 := fun h => by rw [HL.out, all_not litC s k hlt (by rw [hys]; exact h)]; rfl
        have A := Lib.hid (And.intro hall (And.intro hbel (And.intro ht (And.intro hbad (litC_iff y)))))
        have hii : (k : Int) < s.size := by omega
        have hi0 : (0 : Int) ≤ k := by omega
        clear hall hbel ht hbad hy
        cases hst : stB y
        · have HS := Lib.hid hst
          clear hst
          by_cases hin : y.toNat = 38 ∨ y.toNat = 61 ∨ y.toNat = 43 ∨ y.toNat = 59 ∨ y.toNat = 37
          · have hl : litC y = true := by
              rw [A.out.2.2.2.2]
              rcases hin with h | h | h | h | h <;> simp [h]
            have HI := Lib.hid hl
            clear hl
            have g : ∀ n : Nat, y.toNat = n → ((y.toNat : Int) != (n : Int)) = false := fun n h => by rw [h]; simp
            have g2 : ∀ n : Nat, y.toNat ≠ n → ((y.toNat : Int) != (n : Int)) = true := fun n h => by simp; omega
            have hcs : ((y.toNat : Int) != 38) = false ∨ (((y.toNat : Int) != 38) = true ∧ ((y.toNat : Int) != 61) = false) ∨ (((y.toNat : Int) != 38) = true ∧ ((y.toNat : Int) != 61) = true ∧ ((y.toNat : Int) != 43) = false) ∨ (((y.toNat : Int) != 38) = true ∧ ((y.toNat : Int) != 61) = true ∧ ((y.toNat : Int) != 43) = true ∧ ((y.toNat : Int) != 59) = false) ∨ (((y.toNat : Int) != 38) = true ∧ ((y.toNat : Int) != 61) = true ∧ ((y.toNat : Int) != 43) = true ∧ ((y.toNat : Int) != 59) = true ∧ ((y.toNat : Int) != 37) = false) := by
              rcases hin with h | h | h | h | h
              · exact .inl (g 38 h)
              · exact .inr (.inl ⟨g2 38 (by omega), g 61 h⟩)
              · exact .inr (.inr (.inl ⟨g2 38 (by omega), g2 61 (by omega), g 43 h⟩))
              · exact .inr (.inr (.inr (.inl ⟨g2 38 (by omega), g2 61 (by omega), g2 43 (by omega), g 59 h⟩)))
              · exact .inr (.inr (.inr (.inr ⟨g2 38 (by omega), g2 61 (by omega), g2 43 (by omega), g2 59 (by omega), g 37 h⟩)))
            clear hin g g2
            rcases hcs with d1 | ⟨d1, d2⟩ | ⟨d1, d2, d3⟩ | ⟨d1, d2, d3, d4⟩ | ⟨d1, d2, d3, d4, d5⟩
            all_goals
              go_wp2_with (fail)
              refine (rstays y.toNat hxn _).mono ?_
              rintro e W2 ⟨rfl, rfl⟩
              rw [show stP y.toNat = false from HS.out]
              go_wp2_with (fail)
              go_roundw
              case rel => exact ⟨⟨k + 1, by omega, rfl, by rw [A.out.2.2.1, A.out.1, HI.out]; rfl⟩, A.out.2.1⟩
              case measure => simp [intOf]; omega
          · have g2 : ∀ n : Nat, y.toNat ≠ n → ((y.toNat : Int) != (n : Int)) = true := fun n h => by simp; omega
            have d1 : ((y.toNat : Int) != 38) = true := g2 38 (fun h => hin (.inl h))
            have d2 : ((y.toNat : Int) != 61) = true := g2 61 (fun h => hin (.inr (.inl h)))
            have d3 : ((y.toNat : Int) != 43) = true := g2 43 (fun h => hin (.inr (.inr (.inl h))))
            have d4 : ((y.toNat : Int) != 59) = true := g2 59 (fun h => hin (.inr (.inr (.inr (.inl h)))))
            have d5 : ((y.toNat : Int) != 37) = true := g2 37 (fun h => hin (.inr (.inr (.inr (.inr h)))))
            have hl : litC y = false := by
              rw [A.out.2.2.2.2, HS.out]
              simp only [not_or] at hin
              simp [hin.1, hin.2.1, hin.2.2.1, hin.2.2.2.1, hin.2.2.2.2]
            have HI := Lib.hid (A.out.2.2.2.1 hl)
            clear hl hin g2
            go_wp2_with (fail)
            refine (rstays y.toNat hxn _).mono ?_
            rintro e W2 ⟨rfl, rfl⟩
            rw [show stP y.toNat = false from HS.out]
            go_wp2_with (fail)
            go_ret
            exact ⟨by rw [HI.out]; rfl, A.out.2.1⟩
        · have hl : litC y = true := by rw [A.out.2.2.2.2, hst]; simp
          have HI := Lib.hid (And.intro hst hl)
          clear hst hl
          go_wp2_with (fail)
          refine (rstays y.toNat hxn _).mono ?_
          rintro e W2 ⟨rfl, rfl⟩
          rw [show stP y.toNat = true from HI.out.1]
          go_wp2_with (fail)
          go_roundw
          case rel => exact ⟨⟨k + 1, by omega, rfl, by rw [A.out.2.2.1, A.out.1, HI.out.2]; rfl⟩, A.out.2.1⟩
          case measure => simp [intOf]; omega
      · have hk' : k = s.size := by omega
        subst hk'
        have A := Lib.hid (And.intro hall hbel)
        clear hall hbel
        go_wp2_with (fail)
        go_ret
        refine ⟨?_, A.out.2⟩
        have := A.out.1
        rw [List.take_of_length_le (by rw [size_data]; omega)] at this
        rw [HL.out, this]; rfl
  · rw [(rNo ho).1]
    have hlit : litE s.data.toList = 3 := by
      unfold litE litB
      rw [decide_eq_false (fun h => ho (okS_L.2 h)), Bool.false_and]; rfl
    have HL := Lib.hid hlit
    have HB := Lib.hid h1
    clear hlit h1 ho
    go_wp2_with (fail)
    go_ret
    exact ⟨by rw [HL.out]; rfl, gr_alloc HB.out _⟩

/-! cut. -/
theorem pre_skip (c : UInt8) (l : List UInt8) : ∀ k : Nat, c ∉ l.take k → k ≤ l.length → preL c l = l.take k ++ preL c (l.drop k) ∧ posL c l = posL c (l.drop k) ∧ (c ∈ l ↔ c ∈ l.drop k) := by
  induction l with
  | nil => intro k _ hk; simp at hk; subst hk; simp
  | cons a t ih =>
    intro k h hk
    cases k with
    | zero => simp
    | succ k =>
      rw [List.take_succ_cons] at h ⊢
      rw [List.mem_cons, not_or] at h
      obtain ⟨i1, i2, i3⟩ := ih k h.2 (by simp at hk; omega)
      rw [List.drop_succ_cons]
      refine ⟨?_, ?_, ?_⟩
      · conv => lhs; unfold preL
        rw [if_neg (fun e => h.1 e.symm), i1, List.cons_append]
      · conv => lhs; unfold posL
        rw [if_neg (fun e => h.1 e.symm), i2]
      · rw [List.mem_cons, i3]
        exact ⟨fun h' => h'.resolve_left h.1, fun h' => .inr h'⟩
def cutV (c : UInt8) (s : ByteArray) : Value := .tuple #[.string (mkB (preL c s.data.toList)), .string (mkB (posL c s.data.toList)), .bool (decide (c ∈ s.data.toList))]
set_option maxRecDepth 100000 in
set_option maxHeartbeats 2000000 in
theorem rcutQ (s : ByteArray) (c : UInt8) (w : World) (hs : s.size ≤ 1000000000) :
    Calls Tryd.prog 48 #[.string s, .int .u8 (c.toNat : Int)] w fun e w' => e = .returned (cutV c s) ∧ Below w.heap.size w w' := by
  have hcb := u8_bound c
  go_enter Tryd.func48, Tryd.ntmps48
  go_wp2_with (fail)
  go_loopw [7] (fun iv wr => (∃ k : Nat, k ≤ s.size ∧ iv = .int .i64 (k : Int) ∧ c ∉ s.data.toList.take k) ∧ wr = w) (fun iv _ => s.size - (intOf iv).toNat)
  case atStart => exact ⟨⟨0, Nat.zero_le _, rfl, by simp⟩, rfl⟩
  case round =>
    obtain ⟨⟨k, hk, rfl, hno⟩, rfl⟩ := hrel
    by_cases hlt : k < s.size
    · obtain ⟨y, hy⟩ : ∃ y, y = s[k] := ⟨_, rfl⟩
      have hys : s[k] = y := hy.symm
      have hxb := u8_bound y
      have hii : (k : Int) < s.size := by omega
      have hi0 : (0 : Int) ≤ k := by omega
      have hd := drop_at s k hlt
      have htk := take_at s k hlt
      rw [hys] at hd htk
      by_cases hc : y = c
      · subst hc
        obtain ⟨p1, p2, p3⟩ := pre_skip y s.data.toList k hno (by rw [size_data]; exact hk)
        rw [hd] at p1 p2 p3
        have hv : cutV y s = .tuple #[.string (s.extract 0 k), .string (s.extract (k + 1) s.size), .bool true] := by
          unfold cutV
          rw [p1, p2, decide_eq_true (p3.2 (by simp))]
          unfold preL posL
          rw [if_pos rfl, if_pos rfl, List.append_nil]
          have e1 : mkB (s.data.toList.take k) = s.extract 0 k := by apply str_ext; rw [mkB_data, ext_take]
          have e2 : mkB (s.data.toList.drop (k + 1)) = s.extract (k + 1) s.size := by apply str_ext; rw [mkB_data, ext_end]
          rw [e1, e2]
        have HV := Lib.hid hv
        clear hv p1 p2 p3 hd htk hno hy
        go_wp2_with (fail)
        go_quiet (fail)
        go_wp2_with (fail)
        refine bodyPost_ret (v := .tuple #[.string (s.extract 0 k), .string (s.extract (k + 1) s.size), .bool true]) (by simp [results, Tryd.results48, go_sem]) rfl ⟨by rw [HV.out], below_drewN (Below.refl _ _) _⟩
      · have hne : ((y.toNat : Int) == (c.toNat : Int)) = false := beq_eq_false_iff_ne.2 (fun e => hc (u8_ext e))
        have hno2 : c ∉ s.data.toList.take (k + 1) := by
          rw [htk, List.mem_append]
          rintro (h | h)
          · exact hno h
          · simp at h; exact hc h.symm
        have HV := Lib.hid hno2
        clear hno2 hd htk hno hy hc
        go_wp2_with (fail)
        go_roundw
        case rel => exact ⟨⟨k + 1, by omega, rfl, HV.out⟩, trivial⟩
        case measure => simp [intOf]; omega
    · have hk' : k = s.size := by omega
      subst hk'
      rw [List.take_of_length_le (by rw [size_data]; omega)] at hno
      have hv : cutV c s = .tuple #[.string s, .string ⟨#[]⟩, .bool false] := by
        unfold cutV
        rw [(pre_none hno).1, (pre_none hno).2, decide_eq_false hno, mkB_of]; rfl
      have HV := Lib.hid hv
      clear hv hno
      go_wp2_with (fail)
      refine bodyPost_ret (v := .tuple #[.string s, .string ⟨#[]⟩, .bool false]) (by simp [results, Tryd.results48, go_sem]) rfl ⟨by rw [HV.out], Below.refl _ _⟩
end Go.Proofs.YtfbkbnojbbpopaaDoor
