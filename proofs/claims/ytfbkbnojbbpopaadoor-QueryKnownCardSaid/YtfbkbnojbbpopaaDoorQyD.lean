/-
  query's Encode, walked; condition: strings of at most 1000000000 bytes.
-/
import Derived.Test.YtfbkbnojbbpopaaDoorQyB
import Derived.Deep.RegionLaw
import Derived.Deep.AppendLies
namespace Go.Proofs.YtfbkbnojbbpopaaDoor
open Go.RowKit
set_option linter.unusedVariables false
set_option linter.unusedSimpArgs false

theorem hex_at : ∀ n : Nat, n < 16 → ([48, 49, 50, 51, 52, 53, 54, 55, 56, 57, 65, 66, 67, 68, 69, 70] : List UInt8)[n]? = some (hexd n) := by decide
theorem hexs_at (n : Nat) (h : n < 16) (h' : n < ({ data := #[48, 49, 50, 51, 52, 53, 54, 55, 56, 57, 65, 66, 67, 68, 69, 70] } : ByteArray).size) : ({ data := #[48, 49, 50, 51, 52, 53, 54, 55, 56, 57, 65, 66, 67, 68, 69, 70] } : ByteArray)[n]'h' = hexd n := by
  have e := hex_at n h
  rw [List.getElem?_eq_some_iff] at e
  obtain ⟨_, e⟩ := e
  exact e
theorem three_new {w : World} {n : Nat} (hn : n = w.heap.size) (a b c : Value) (e : TypeId) : ∀ j u, [a, b, c][j]? = some u → (w.alloc (.cells #[a, b, c] e)).cell? ((⟨n, 0, none⟩ : Addr).add j) = some u := by
  subst hn
  intro j u hj
  have h := (Blk.new w e #[a, b, c]).cell j
  rw [Addr.add_lit, Nat.zero_add, h, List.getElem?_toArray]
  exact hj
theorem three_int (k : IntKind) (a b c : Int) : ∀ u ∈ [Value.int k a, .int k b, .int k c], u.oneCell' = true := by
  intro u hu
  simp at hu
  rcases hu with rfl | rfl | rfl <;> rfl
theorem enc1_yes {x : UInt8} (h : stB x = true) : enc1 x = [x] := by unfold enc1; rw [if_pos h]
theorem enc1_no {x : UInt8} (h : stB x = false) : enc1 x = [37, hexd (x.toNat / 16), hexd (x.toNat % 16)] := by unfold enc1; rw [h, if_neg (by decide)]
theorem and15 : ∀ c : UInt8, bits .and .u8 (c.toNat : Int) 15 = (c.toNat : Int) % 16 :=
  fun c => u8_all (p := fun c => bits .and .u8 (c.toNat : Int) 15 = (c.toNat : Int) % 16) (by decide +kernel) c

def QEncRel (s : ByteArray) (st : Nat → Bool) (w0 : World) (X : Nat) (n : Nat) (ov iv : Value) (wr : World) : Prop :=
  ∃ k : Nat, n = s.size - k ∧ k ≤ s.size ∧ iv = .int .i64 (k : Int) ∧ wr.ownsRow (X + 2) 5 1 ov (encQ (s.data.toList.take k)).length (Lib.byteCells (encQ (s.data.toList.take k))) ∧
    Blk wr X 61 #[Value.int .u64 (setW st 0 : Int), .int .u64 (setW st 1 : Int), .int .u64 (setW st 2 : Int), .int .u64 (setW st 3 : Int)] ∧ Cells wr (some ⟨X + 1, 0, none⟩) 1 s.size (byteAt (byS s)) ∧ Below w0.heap.size w0 wr ∧ X + 2 ≤ wr.heap.size

set_option maxRecDepth 100000 in
set_option maxHeartbeats 4000000 in
theorem qencode (s : ByteArray) (w : World) (hs : s.size ≤ 1000000000) :
    Calls Tryd.prog 17 #[.string s] w fun e w' => e = .returned (.string (mkB (encQ s.data.toList))) ∧ Below w.heap.size w w' := by
  obtain ⟨i0, hi, hz0, hz1, hz2⟩ := info_parts infoByte
  have hcv := fun W => Lib.run_convert_string_bytes (P := Tryd.prog) W 9 63 5 s Tryd.underlying9 Tryd.underlying63 Tryd.underlying5
  go_enter Tryd.func17, Tryd.ntmps17
  go_wp2_with (fail)
  refine (qstay _).mono ?_
  rintro e W0 ⟨rfl, h0⟩
  have hX : w.heap.size ≤ W0.heap.size := h0.size
  obtain ⟨X, hXd⟩ : ∃ X, X = W0.heap.size := ⟨_, rfl⟩
  generalize hst : stP = st at *
  have HS := Lib.hid hst
  clear hst
  have hbA := gr_alloc h0 (.cells #[Value.int .u64 (setW st 0 : Int), .int .u64 (setW st 1 : Int), .int .u64 (setW st 2 : Int), .int .u64 (setW st 3 : Int)] 61)
  have hkA := Blk.new W0 61 #[Value.int .u64 (setW st 0 : Int), .int .u64 (setW st 1 : Int), .int .u64 (setW st 2 : Int), .int .u64 (setW st 3 : Int)]
  have hzA : (W0.alloc (.cells #[Value.int .u64 (setW st 0 : Int), .int .u64 (setW st 1 : Int), .int .u64 (setW st 2 : Int), .int .u64 (setW st 3 : Int)] 61)).heap.size = X + 1 := by rw [hXd]; simp
  have hbB := bytes_below (W0.alloc (.cells #[Value.int .u64 (setW st 0 : Int), .int .u64 (setW st 1 : Int), .int .u64 (setW st 2 : Int), .int .u64 (setW st 3 : Int)] 61)) 5 s (W0.alloc (.cells #[Value.int .u64 (setW st 0 : Int), .int .u64 (setW st 1 : Int), .int .u64 (setW st 2 : Int), .int .u64 (setW st 3 : Int)] 61)).heap.size (Nat.le_refl _)
  have hcB := bytes_cells (W0.alloc (.cells #[Value.int .u64 (setW st 0 : Int), .int .u64 (setW st 1 : Int), .int .u64 (setW st 2 : Int), .int .u64 (setW st 3 : Int)] 61)) s
  rw [hzA] at hcB
  have hszB := Lib.bytesWorld_size (W0.alloc (.cells #[Value.int .u64 (setW st 0 : Int), .int .u64 (setW st 1 : Int), .int .u64 (setW st 2 : Int), .int .u64 (setW st 3 : Int)] 61)) 5 s
  have K := Lib.hid (And.intro (gr_call hbA hbB) (And.intro (by rw [hXd]; exact hkA.call hbB : Blk (Lib.bytesWorld (W0.alloc (.cells #[Value.int .u64 (setW st 0 : Int), .int .u64 (setW st 1 : Int), .int .u64 (setW st 2 : Int), .int .u64 (setW st 3 : Int)] 61)) 5 s) X 61 #[Value.int .u64 (setW st 0 : Int), .int .u64 (setW st 1 : Int), .int .u64 (setW st 2 : Int), .int .u64 (setW st 3 : Int)]) (And.intro hcB (by rw [hszB, hzA] : (Lib.bytesWorld (W0.alloc (.cells #[Value.int .u64 (setW st 0 : Int), .int .u64 (setW st 1 : Int), .int .u64 (setW st 2 : Int), .int .u64 (setW st 3 : Int)] 61)) 5 s).heap.size = X + 1 + 1))))
  clear h0 hbA hkA hbB hcB hszB
  go_wp2_with (fail)
  go_loopg [4, 11] s.size (fun n ov iv wr => QEncRel s st w X n ov iv wr)
  case atStart =>
    refine ⟨0, rfl, Nat.zero_le _, rfl, ?_, K.out.2.1, K.out.2.2.1, K.out.1, by rw [K.out.2.2.2]; omega⟩
    exact World.ownsRow_nil _ _ _ _
  case round =>
    obtain ⟨k, hn, hk, rfl, hown, hblk, hcl, hbel, hXz⟩ := hrel
    obtain ⟨va, vc, rfl⟩ := own_slice hown
    have hle := encQ_len (s.data.toList.take k)
    rw [List.length_take] at hle
    by_cases hlt : k < s.size
    · have c0 : wr.cell? ⟨W0.heap.size + 1, k, none⟩ = some (.int .u8 (s[k].toNat : Int)) := by
        have := cells_one hcl hlt
        unfold byteAt at this
        rw [← get_byS s k hlt, hXd] at this
        exact this
      obtain ⟨x, hx⟩ : ∃ x, x = s[k] := ⟨_, rfl⟩
      have hxs : s[k] = x := hx.symm
      rw [hxs] at c0
      have hxb := u8_bound x
      have hx0 : 0 ≤ (x.toNat : Int) := by omega
      rw [hXd] at hblk
      have a0 := hblk.cell' (i := 0) rfl
      have a1 := hblk.cell' (i := 1) rfl
      have a2 := hblk.cell' (i := 2) rfl
      have a3 := hblk.cell' (i := 3) rfl
      have hlX := hblk.lt
      have htk := take_at s k hlt
      rw [hxs] at htk
      have A := Lib.hid (And.intro hn (And.intro hown (And.intro hblk (And.intro hcl (And.intro hbel htk)))))
      clear hn hown hblk hcl hbel htk hx
      have hcall := fun W => qhas x W
      rw [HS.out] at hcall
      have HC := Lib.hid hcall
      clear hcall
      cases hst' : stB x
      · have HB := Lib.hid (And.intro hst' (enc1_no hst'))
        clear hst'
        go_wp2_with (fail)
        refine (HC.out _).mono ?_
        rintro e W1 ⟨rfl, hw1⟩
        rw [HB.out.1]
        have HN : Hid (∀ o, (W1.alloc o).drew.ownsRow (X + 2) 5 1 (.slice va (encQ (s.data.toList.take k)).length vc) (encQ (s.data.toList.take k)).length (Lib.byteCells (encQ (s.data.toList.take k)))) := Lib.hid (fun o => ((own_below A.out.2.1 hw1 (Nat.le_refl _)).alloc o).drew)
        have hL1 : Hid ((encQ (s.data.toList.take k)).length + 3 ≤ maxLen) := Lib.hid (by unfold maxLen; omega)
        have hL2 : Hid (((encQ (s.data.toList.take k)).length + 3) * 1 ≤ 140737488355328) := Lib.hid (by omega)
        have hWz : wr.heap.size ≤ W1.heap.size := hw1.size
        have HW := Lib.hid hw1
        clear hw1
        have e1 := fun h' => hexs_at (x.toNat / 16) (by omega) h'
        have e2 := fun h' => hexs_at (x.toNat % 16) (by omega) h'
        have w1 : (x.toNat : Int) / 2 ^ 4 = (x.toNat : Int) / 16 := by rw [show (2 : Int) ^ 4 = 16 from rfl]
        have w1b : IntKind.u8.wrap ((x.toNat : Int) / 16) = (x.toNat : Int) / 16 := IntWalk.u8_in _ (by omega)
        have w2 := and15 x
        have w3 : (x.toNat : Int) / 16 < 16 := by omega
        have w4 : (x.toNat : Int) % 16 < 16 := by omega
        have w5 : 0 ≤ (x.toNat : Int) / 16 := by omega
        have w6 : 0 ≤ (x.toNat : Int) % 16 := by omega
        have w7 : ((x.toNat : Int) / 16).toNat = x.toNat / 16 := by omega
        have w8 : ((x.toNat : Int) % 16).toNat = x.toNat % 16 := by omega
        go_wp2_with (fail)
        go_region_law (first
          | (refine step_append_lies _ rfl (.tmp 23) (.tmp 30) 63 rfl (X + 2) 5 i0 (.int .u8 0) 1 1 Tryd.underlying63 hi hz0 hz1 hz2 rfl (by decide) (.slice va (encQ (s.data.toList.take k)).length vc) (encQ (s.data.toList.take k)).length (Lib.byteCells (encQ (s.data.toList.take k))) (by simp [Act.eval, Act.put]) (HN.out _) ⟨W1.heap.size, 0, none⟩ 3 3 [.int .u8 37, .int .u8 ((hexd (x.toNat / 16)).toNat : Int), .int .u8 ((hexd (x.toNat % 16)).toNat : Int)] (by simp [Act.eval, Act.put]) rfl (three_new (w := W1) rfl _ _ _ _) (three_int _ _ _ _) (by omega) hL1.out hL2.out (by simp; omega) (W1.heap.size + 1) (by simp) ?_
             intro gn cn W2 hown1 hgrow1 hlies1 hlt1))
        all_goals
          clear w1 w1b w2 w3 w4 w5 w6 w7 w8 e1 e2
          have W := Lib.hid (And.intro hown1 hgrow1)
          clear hown1 hgrow1 hlies1
          go_wp2_with (fail)
          go_roundg (s.size - (k + 1))
          case measure => have := A.out.1; omega
          case rel =>
            obtain ⟨hn, hown, hblk, hcl, hbel, htk⟩ := A.out
            obtain ⟨hown1, hgrow1⟩ := W.out
            have hB1 := gr_call hbel HW.out
            have hb2 := (hblk.call HW.out).alloc (.cells #[.int .u8 37, .int .u8 ((hexd (x.toNat / 16)).toNat : Int), .int .u8 ((hexd (x.toNat % 16)).toNat : Int)] 5)
            have hc2 := (hcl.below HW.out).below (gr_drew (gr_alloc (Below.refl _ _) (.cells #[.int .u8 37, .int .u8 ((hexd (x.toNat / 16)).toNat : Int), .int .u8 ((hexd (x.toNat % 16)).toNat : Int)] 5)))
            have e : encQ (s.data.toList.take (k + 1)) = encQ (s.data.toList.take k) ++ [37, hexd (x.toNat / 16), hexd (x.toNat % 16)] := by
              rw [htk, encQ_append, encQ_one, HB.out.2]
            have hgb := fun q hq => ((HN.out (.cells #[.int .u8 37, .int .u8 ((hexd (x.toNat / 16)).toNat : Int), .int .u8 ((hexd (x.toNat % 16)).toNat : Int)] 5)).lt q hq).1
            refine ⟨k + 1, rfl, hlt, rfl, ?_, ?_, ?_, ?_, ?_⟩
            · rw [e, Lib.byteCells_append, List.length_append]
              exact hown1
            · rw [hXd]; exact hb2.drew.grown hgrow1 (own_blk_ne (HN.out _) hb2.drew (by decide))
            · refine hc2.grown hgrow1 ?_
              intro a q ha hq
              cases ha
              have := hgb q hq
              show X + 1 ≠ q
              omega
            · exact ((gr_alloc hB1 _).drew).grown hgrow1 (by have := hB1.size; simp; omega) (fun q hq => by have := hgb q hq; omega)
            · have := hgrow1.size; have := HW.out.size; simp at *; omega
      · have HB := Lib.hid (And.intro hst' (enc1_yes hst'))
        clear hst'
        go_wp2_with (fail)
        refine (HC.out _).mono ?_
        rintro e W1 ⟨rfl, hw1⟩
        rw [HB.out.1]
        have hown := own_below A.out.2.1 hw1 (Nat.le_refl _)
        have hWz : wr.heap.size ≤ W1.heap.size := hw1.size
        have HW := Lib.hid hw1
        clear hw1
        go_wp2_with (at_builtin; refine wpList_append_own _ rfl _ _ 63 rfl (X + 2) 5 i0 (.int .u8 0) 1 1 Tryd.underlying63 hi hz0 hz1 hz2 rfl (by decide) _ _ _ rfl (hown.alloc _) ⟨W1.heap.size, 0, none⟩ 1 1 [.int .u8 (x.toNat : Int)] rfl rfl ?c1 ?c2 ?c3 ?c4 ?c5 ?_)
        case c1 => exact one_new rfl _ _
        case c2 => exact one_int _ _
        case c3 => unfold maxLen; omega
        case c4 => omega
        case c5 => simp; omega
        intro v' W2 hown' hgrow _
        obtain ⟨vb, vd, rfl⟩ := own_slice hown'
        have W := Lib.hid (And.intro hown' (And.intro hgrow hown))
        clear hown' hgrow hown
        go_wp2_with (fail)
        go_roundg (s.size - (k + 1))
        case measure => have := A.out.1; omega
        case rel =>
          obtain ⟨hn, _, hblk, hcl, hbel, htk⟩ := A.out
          obtain ⟨hown1, hgrow1, hown⟩ := W.out
          have hB1 := gr_call hbel HW.out
          have hb2 := (hblk.call HW.out).alloc (.cells #[.int .u8 (x.toNat : Int)] 5)
          have hc2 := (hcl.below HW.out).below (gr_alloc (Below.refl _ _) (.cells #[.int .u8 (x.toNat : Int)] 5))
          have e : encQ (s.data.toList.take (k + 1)) = encQ (s.data.toList.take k) ++ [x] := by
            rw [htk, encQ_append, encQ_one, HB.out.2]
          have hgb := fun q hq => (hown.lt q hq).1
          refine ⟨k + 1, rfl, hlt, rfl, ?_, ?_, ?_, ?_, ?_⟩
          · rw [e, Lib.byteCells_append, List.length_append]
            rw [hXd]
            exact hown1
          · rw [hXd]; exact hb2.grown hgrow1 (own_blk_ne (hown.alloc _) hb2 (by decide))
          · refine hc2.grown hgrow1 ?_
            intro a q ha hq
            cases ha
            have := hgb q hq
            show X + 1 ≠ q
            omega
          · exact (gr_alloc hB1 _).grown hgrow1 (by have := hB1.size; simp; omega) (fun q hq => by have := hgb q hq; omega)
          · have := hgrow1.size; have := HW.out.size; simp at *; omega
    · have hke : k = s.size := by omega
      have ht : s.data.toList.take k = s.data.toList := List.take_of_length_le (by rw [size_data]; omega)
      rw [ht] at hown
      have hcv2 := run_own_string (P := Tryd.prog) (w := wr) (src := 63) (dst := 9) Tryd.underlying63 Tryd.underlying5 Tryd.underlying9 rfl hown
      rw [← ht] at hcv2
      have A := Lib.hid (And.intro ht hbel)
      clear hn hown hblk hcl hbel hke ht
      go_wp2_with (fail)
      go_ret
      obtain ⟨ht, hbel⟩ := A.out
      exact ⟨by rw [ht]; rfl, hbel⟩
end Go.Proofs.YtfbkbnojbbpopaaDoor
