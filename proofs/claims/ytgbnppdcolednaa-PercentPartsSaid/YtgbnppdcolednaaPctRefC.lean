/-
  The reference of percent, third part: Encode and Length; condition: strings of at most 1000000000 bytes.
-/
import Derived.Test.YtgbnppdcolednaaPctC
import Derived.Deep.RegionLaw
import Derived.Deep.AppendLies
namespace Go.Proofs.Ytgbnppdcolednaa
open Go.RowKit
set_option linter.unusedVariables false
set_option linter.unusedSimpArgs false

def REncRel (S : Nat → Nat) (s : ByteArray) (w0 : World) (n : Nat) (ov iv : Value) (wr : World) : Prop :=
  ∃ k : Nat, n = s.size - k ∧ k ≤ s.size ∧ iv = .int .i64 (k : Int) ∧ wr.ownsRow w0.heap.size 5 1 ov (encL S (s.data.toList.take k)).length (Lib.byteCells (encL S (s.data.toList.take k))) ∧
    Blk wr w0.heap.size 31 #[.int .u64 (S 0 : Int), .int .u64 (S 1 : Int), .int .u64 (S 2 : Int), .int .u64 (S 3 : Int)] ∧ Below w0.heap.size w0 wr

theorem three_new {w : World} {n : Nat} (hn : n = w.heap.size) (a b c : Value) (e : TypeId) : ∀ j u, [a, b, c][j]? = some u → (w.alloc (.cells #[a, b, c] e)).cell? ((⟨n, 0, none⟩ : Addr).add j) = some u := by
  subst hn
  intro j u hj
  have h := (Blk.new w e #[a, b, c]).cell j
  rw [Addr.add_lit, Nat.zero_add, h, List.getElem?_toArray]
  exact hj
theorem three_int (k : IntKind) (a b c : Int) : ∀ u ∈ [Value.int k a, .int k b, .int k c], u.oneCell' = true := by
  intro u hu
  simp at hu
  rcases hu with rfl | rfl | rfl <;> rfl

set_option maxRecDepth 100000 in
set_option maxHeartbeats 2000000 in
theorem rencode (S : Nat → Nat) (hS : ∀ k, S k < 2 ^ 64) (s : ByteArray) (w : World) (hs : s.size ≤ 1000000000) :
    Calls Try.prog 22 #[.string s, .agg #[.int .u64 (S 0 : Int), .int .u64 (S 1 : Int), .int .u64 (S 2 : Int), .int .u64 (S 3 : Int)]] w fun e w' => e = .returned (.string (encS S s)) ∧ Below w.heap.size w w' := by
  obtain ⟨i0, hi, hz0, hz1, hz2⟩ := info_parts infoByte
  have hS := Lib.hid hS
  go_enter Try.func22, Try.ntmps22
  go_wp2_with (fail)
  go_loopg [5, 6] s.size (fun n ov iv wr => REncRel S s w n ov iv wr)
  case atStart => exact ⟨0, rfl, Nat.zero_le _, rfl, by simpa [encL, Lib.byteCells] using World.ownsRow_nil _ _ _ _, Blk.new _ _ _, (Below.refl _ _).alloc (Nat.le_refl _) _⟩
  case round =>
    obtain ⟨k, hn, hk, rfl, hown, hbk, hbel⟩ := hrel
    obtain ⟨va, vc, rfl⟩ := own_slice hown
    have hle := encL_len S (s.data.toList.take k)
    rw [List.length_take] at hle
    have hfz := hbk.lt
    by_cases hlt : k < s.size
    · obtain ⟨x, hx⟩ : ∃ x, x = s[k] := ⟨_, rfl⟩
      have hxs : s[k] = x := hx.symm
      have b0 := hbk.cell' (i := 0) (v := .int .u64 (S 0 : Int)) rfl
      have b1 := hbk.cell' (i := 1) (v := .int .u64 (S 1 : Int)) rfl
      have b2 := hbk.cell' (i := 2) (v := .int .u64 (S 2 : Int)) rfl
      have b3 := hbk.cell' (i := 3) (v := .int .u64 (S 3 : Int)) rfl
      have hxb := u8_bound x
      have hx0 : 0 ≤ (x.toNat : Int) := by omega
      have A := Lib.hid (And.intro hn (And.intro hown (And.intro hbk (And.intro hbel hx))))
      clear hn hown hbk hbel hx
      have e1 := fun h' => hexs_at (x.toNat / 16) (by omega) h'
      have e2 := fun h' => hexs_at (x.toNat % 16) (by omega) h'
      have hi0 : (0 : Int) ≤ k := by omega
      by_cases h37 : x = 37
      · subst h37
        clear e1 e2
        go_wp2_with (fail)
        go_still_tail 9, (by kernel_rfl)
        change wpList _ _ _ _ _ wr.drew
        go_wp2_with (fail)
        have w1 : IntKind.u8.wrap 2 = 2 := by decide
        have w2 : IntKind.u8.wrap 5 = 5 := by decide
        have HN : Hid (∀ o, (wr.drew.alloc o).drew.ownsRow w.heap.size 5 1 (.slice va (encL S (s.data.toList.take k)).length vc) (encL S (s.data.toList.take k)).length (Lib.byteCells (encL S (s.data.toList.take k)))) := Lib.hid (fun o => (A.out.2.1.drew.alloc o).drew)
        have hL1 : Hid ((encL S (s.data.toList.take k)).length + 3 ≤ maxLen) := Lib.hid (by unfold maxLen; omega)
        have hL2 : Hid (((encL S (s.data.toList.take k)).length + 3) * 1 ≤ 140737488355328) := Lib.hid (by omega)
        go_region_law (first
          | (refine step_append_lies _ rfl (.tmp 30) (.tmp 41) 58 rfl w.heap.size 5 i0 (.int .u8 0) 1 1 Try.underlying58 hi hz0 hz1 hz2 rfl (by decide) (.slice va (encL S (s.data.toList.take k)).length vc) (encL S (s.data.toList.take k)).length (Lib.byteCells (encL S (s.data.toList.take k))) (by simp [Act.eval, Act.put]) (HN.out _) ⟨wr.heap.size, 0, none⟩ 3 3 [.int .u8 37, .int .u8 50, .int .u8 53] (by simp [Act.eval, Act.put]) rfl (three_new (w := wr.drew) rfl _ _ _ _) (three_int _ _ _ _) (by omega) hL1.out hL2.out (by simp; omega) (wr.heap.size + 1) (by simp) ?_
             intro gn cn W2 hown1 hgrow1 hlies1 hlt1))
        all_goals
          have W := Lib.hid (And.intro hown1 hgrow1)
          clear hown1 hgrow1 hlies1
          go_wp2_with (fail)
          go_roundg (s.size - (k + 1))
          case measure => have := A.out.1; omega
          case rel =>
            obtain ⟨hn, hown, hbk, hbel, hx⟩ := A.out
            obtain ⟨hown1, hgrow1⟩ := W.out
            have hB1 := hbel.drew
            have hK1 := hbk.drew
            have e : encL S (s.data.toList.take (k + 1)) = encL S (s.data.toList.take k) ++ [37, 50, 53] := by
              rw [take_at s k hlt, encL_append, encL_one, hxs, encB_esc (.inl rfl)]; rfl
            refine ⟨k + 1, rfl, hlt, rfl, ?_, ?_, ?_⟩
            · rw [e, Lib.byteCells_append, List.length_append]
              exact hown1
            · have ha := (hK1.alloc (.cells #[.int .u8 37, .int .u8 50, .int .u8 53] 5)).drew
              exact ha.grown hgrow1 (own_blk_ne (HN.out _) ha (by decide))
            · exact ((hB1.alloc (by have := hB1.size; omega) (.cells #[.int .u8 37, .int .u8 50, .int .u8 53] 5)).drew).grown hgrow1 (by have := hB1.size; simp; omega) (fun k hk => (hown.lt k hk).1)
      · have h37' : ((x.toNat : Int) != 37) = true := by simpa using fun e => h37 (u8_ext (by simpa using e))
        have H37 := Lib.hid h37
        clear h37
        cases hhas : hasS S x
        · have hH := Lib.hid hhas
          go_wp2_with (fail)
          go_still_tail 9, (by kernel_rfl)
          change wpList _ _ _ _ _ wr.drew
          go_wp2_with (go_at_call 39; refine (rhas S x _ hS.out).mono ?_; rintro e W1 ⟨rfl, hw1⟩)
          have HN : Hid (∀ o, (W1.alloc o).drew.ownsRow w.heap.size 5 1 (.slice va (encL S (s.data.toList.take k)).length vc) (encL S (s.data.toList.take k)).length (Lib.byteCells (encL S (s.data.toList.take k)))) := Lib.hid (fun o => ((own_below A.out.2.1.drew hw1 (Nat.le_refl _)).alloc o).drew)
          have hL1 : Hid ((encL S (s.data.toList.take k)).length + 3 ≤ maxLen) := Lib.hid (by unfold maxLen; omega)
          have hL2 : Hid (((encL S (s.data.toList.take k)).length + 3) * 1 ≤ 140737488355328) := Lib.hid (by omega)
          have hWz : wr.heap.size ≤ W1.heap.size := hw1.size
          have HW := Lib.hid hw1
          clear hw1
          have w1 : IntKind.u8.wrap ((x.toNat : Int) / 16) = (x.toNat : Int) / 16 := IntWalk.u8_in _ (by omega)
          have w2 : IntKind.u8.wrap ((x.toNat : Int) % 16) = (x.toNat : Int) % 16 := IntWalk.u8_in _ (by omega)
          have w3 : (x.toNat : Int) / 16 < 16 := by omega
          have w4 : (x.toNat : Int) % 16 < 16 := by omega
          have w5 : 0 ≤ (x.toNat : Int) / 16 := by omega
          have w6 : 0 ≤ (x.toNat : Int) % 16 := by omega
          have w7 : ((x.toNat : Int) / 16).toNat = x.toNat / 16 := by omega
          have w8 : ((x.toNat : Int) % 16).toNat = x.toNat % 16 := by omega
          have w9 : (x.toNat : Int).tmod 16 = (x.toNat : Int) % 16 := Int.tmod_eq_emod_of_nonneg hx0
          go_region_law (first
            | (refine step_append_lies _ rfl (.tmp 30) (.tmp 41) 58 rfl w.heap.size 5 i0 (.int .u8 0) 1 1 Try.underlying58 hi hz0 hz1 hz2 rfl (by decide) (.slice va (encL S (s.data.toList.take k)).length vc) (encL S (s.data.toList.take k)).length (Lib.byteCells (encL S (s.data.toList.take k))) (by simp [Act.eval, Act.put]) (HN.out _) ⟨W1.heap.size, 0, none⟩ 3 3 [.int .u8 37, .int .u8 ((hexd (x.toNat / 16)).toNat : Int), .int .u8 ((hexd (x.toNat % 16)).toNat : Int)] (by simp [Act.eval, Act.put]) rfl (three_new (w := W1) rfl _ _ _ _) (three_int _ _ _ _) (by omega) hL1.out hL2.out (by simp; omega) (W1.heap.size + 1) (by simp) ?_
               intro gn cn W2 hown1 hgrow1 hlies1 hlt1))
          all_goals
            clear w1 w2 w3 w4 w5 w6 w7 w8 w9 e1 e2
            have W := Lib.hid (And.intro hown1 hgrow1)
            clear hown1 hgrow1 hlies1
            go_wp2_with (fail)
            go_roundg (s.size - (k + 1))
            case measure => have := A.out.1; omega
            case rel =>
              obtain ⟨hn, hown, hbk, hbel, hx⟩ := A.out
              obtain ⟨hown1, hgrow1⟩ := W.out
              have hB1 := hbel.drew.trans (HW.out.mono (by show w.heap.size ≤ wr.heap.size; omega))
              have hK1 := (hbk.drew.below HW.out hbk.lt)
              have e : encL S (s.data.toList.take (k + 1)) = encL S (s.data.toList.take k) ++ [37, hexd (x.toNat / 16), hexd (x.toNat % 16)] := by
                rw [take_at s k hlt, encL_append, encL_one, hxs, encB_esc (.inr hH.out)]
              refine ⟨k + 1, rfl, hlt, rfl, ?_, ?_, ?_⟩
              · rw [e, Lib.byteCells_append, List.length_append]
                exact hown1
              · have ha := (hK1.alloc (.cells #[.int .u8 37, .int .u8 ((hexd (x.toNat / 16)).toNat : Int), .int .u8 ((hexd (x.toNat % 16)).toNat : Int)] 5)).drew
                exact ha.grown hgrow1 (own_blk_ne (HN.out _) ha (by decide))
              · exact ((hB1.alloc (by have := hB1.size; omega) (.cells #[.int .u8 37, .int .u8 ((hexd (x.toNat / 16)).toNat : Int), .int .u8 ((hexd (x.toNat % 16)).toNat : Int)] 5)).drew).grown hgrow1 (by have := hB1.size; simp; omega) (fun k hk => (hown.lt k hk).1)
        · have hH := Lib.hid hhas
          go_wp2_with (fail)
          go_still_tail 9, (by kernel_rfl)
          change wpList _ _ _ _ _ wr.drew
          go_wp2_with (fail)
          refine (rhas S x _ hS.out).mono ?_
          rintro e W1 ⟨rfl, hw1⟩
          have hown := own_below A.out.2.1.drew hw1 (Nat.le_refl _)
          have hWz : wr.heap.size ≤ W1.heap.size := hw1.size
          have HW := Lib.hid hw1
          clear hw1
          go_wp2_with (at_builtin; refine wpList_append_own _ rfl _ _ 58 rfl w.heap.size 5 i0 (.int .u8 0) 1 1 Try.underlying58 hi hz0 hz1 hz2 rfl (by decide) _ _ _ rfl (hown.alloc _) ⟨W1.heap.size, 0, none⟩ 1 1 [.int .u8 (x.toNat : Int)] rfl rfl ?c1 ?c2 ?c3 ?c4 ?c5 ?_)
          case c1 => exact one_new rfl _ _
          case c2 => exact one_int _ _
          case c3 => unfold maxLen; omega
          case c4 => omega
          case c5 => simp; omega
          intro v' W2 hown' hgrow _
          obtain ⟨vb, vd, rfl⟩ := own_slice hown'
          have W := Lib.hid (And.intro hown' (And.intro hgrow hown))
          clear hown' hgrow hown
          go_wp2_with (fail)
          go_roundg (s.size - (k + 1))
          case measure => have := A.out.1; omega
          case rel =>
            obtain ⟨hn, _, hbk, hbel, hx⟩ := A.out
            obtain ⟨hown1, hgrow1, hown⟩ := W.out
            have hB1 := hbel.drew.trans (HW.out.mono (by show w.heap.size ≤ wr.heap.size; omega))
            have hK1 := (hbk.drew.below HW.out hbk.lt)
            have e : encL S (s.data.toList.take (k + 1)) = encL S (s.data.toList.take k) ++ [x] := by
              rw [take_at s k hlt, encL_append, encL_one, hxs, encB_stay H37.out hH.out]
            refine ⟨k + 1, rfl, hlt, rfl, ?_, ?_, ?_⟩
            · rw [e, Lib.byteCells_append, List.length_append]
              exact hown1
            · have ha := (hK1.alloc (.cells #[.int .u8 (x.toNat : Int)] 5))
              exact ha.grown hgrow1 (own_blk_ne (hown.alloc _) ha (by decide))
            · exact ((hB1.alloc (by have := hB1.size; omega) (.cells #[.int .u8 (x.toNat : Int)] 5))).grown hgrow1 (by have := hB1.size; simp; omega) (fun k hk => (hown.lt k hk).1)
    · have hke : k = s.size := by omega
      have ht : s.data.toList.take k = s.data.toList := List.take_of_length_le (by rw [size_data]; omega)
      rw [ht] at hown
      have hcv := run_own_string (P := Try.prog) (w := wr) (src := 58) (dst := 9) Try.underlying58 Try.underlying5 Try.underlying9 rfl hown
      rw [← ht] at hcv
      have A := Lib.hid (And.intro ht hbel)
      clear hn hown hbk hbel hke ht
      go_wp2_with (fail)
      go_ret
      obtain ⟨ht, hbel⟩ := A.out
      exact ⟨by rw [ht]; rfl, hbel⟩
end Go.Proofs.Ytgbnppdcolednaa
