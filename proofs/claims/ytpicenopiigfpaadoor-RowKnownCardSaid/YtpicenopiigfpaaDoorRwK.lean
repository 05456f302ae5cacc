/-
  row.Write, walked: how a word is written; condition: strings of at most 100000000 bytes.
-/
import Derived.Test.YtpicenopiigfpaaDoorRwC
import Derived.Test.YtpicenopiigfpaaDoorInfo
import Derived.Lib.ConvBytes
import Derived.Lib.AtoiErrMem
import Derived.BigRegion
namespace Go.Proofs.YtpicenopiigfpaaDoor
open Go.RowKit
set_option linter.unusedVariables false
set_option linter.unusedSimpArgs false

theorem wgen_at {G : Exit → Act → World → Prop} {e : Exit} {a : Act} {W0 : World} {p : World → Prop} (h0 : p W0) (h : ∀ W, p W → G e a W) : G e a W0 := h W0 h0
theorem hexl_at : ∀ n : Nat, n < 16 → ([48, 49, 50, 51, 52, 53, 54, 55, 56, 57, 97, 98, 99, 100, 101, 102] : List UInt8)[n]? = some (hexl n) := by decide
theorem hexls_at (n : Nat) (h : n < 16) (h' : n < ({ data := #[48, 49, 50, 51, 52, 53, 54, 55, 56, 57, 97, 98, 99, 100, 101, 102] } : ByteArray).size) : ({ data := #[48, 49, 50, 51, 52, 53, 54, 55, 56, 57, 97, 98, 99, 100, 101, 102] } : ByteArray)[n]'h' = hexl n := by
  have e := hexl_at n h
  rw [List.getElem?_eq_some_iff] at e
  obtain ⟨_, e⟩ := e
  exact e
theorem and15 : ∀ c : UInt8, bits .and .u8 (c.toNat : Int) 15 = (c.toNat : Int) % 16 :=
  fun c => u8_all (p := fun c => bits .and .u8 (c.toNat : Int) 15 = (c.toNat : Int) % 16) (by decide +kernel) c
theorem many_new {w : World} {n : Nat} (hn : n = w.heap.size) (l : List Value) (e : TypeId) : ∀ j u, l[j]? = some u → (w.alloc (.cells l.toArray e)).cell? ((⟨n, 0, none⟩ : Addr).add j) = some u := by
  subst hn
  intro j u hj
  have h := (Blk.new w e l.toArray).cell j
  rw [Addr.add_lit, Nat.zero_add, h, List.getElem?_toArray]
  exact hj
theorem bytes_one (l : List UInt8) : ∀ u ∈ Lib.byteCells l, u.oneCell' = true := by
  intro u hu
  simp only [Lib.byteCells, List.mem_map] at hu
  obtain ⟨c, _, rfl⟩ := hu
  rfl
/-- A block that a conversion has laid. -/
def BytesAt (W : World) (kb : Nat) (s : ByteArray) : Prop := ∃ cs m, W.heap[kb]? = some (.cells cs 5 (m, m + 1)) ∧ ∀ j (h : j < s.size), cs[j]? = some (.int .u8 ((s[j]).toNat : Int))
theorem BytesAt.ne {W : World} {kb : Nat} {s : ByteArray} (h : BytesAt W kb s) {B size n : Nat} {e : TypeId} {v : Value} {xs : List Value} (ho : W.ownsRow B e size v n xs) : some kb ≠ v.ownBlock := by
  obtain ⟨cs, m, h1, _⟩ := h
  rcases ho.2 with ⟨e, _⟩ | ⟨g, cap, cur, e, _, hg, _⟩
  · rw [e]; intro h; cases h
  · rw [e]
    intro h
    cases h
    rw [h1] at hg
    cases hg
theorem BytesAt.at_ {W W' : World} {kb : Nat} {s : ByteArray} (h : BytesAt W kb s) (hb : W'.heap[kb]? = W.heap[kb]?) : BytesAt W' kb s := by
  obtain ⟨cs, m, h1, h2⟩ := h
  exact ⟨cs, m, hb.trans h1, h2⟩
theorem BytesAt.lt {W : World} {kb : Nat} {s : ByteArray} (h : BytesAt W kb s) : kb < W.heap.size := (Array.getElem?_eq_some_iff.1 h.choose_spec.choose_spec.1).1
theorem BytesAt.cell {W : World} {kb : Nat} {s : ByteArray} (h : BytesAt W kb s) {j : Nat} (hj : j < s.size) : W.cell? ⟨kb, j, none⟩ = some (.int .u8 ((s[j]).toNat : Int)) := by
  obtain ⟨cs, m, h1, h2⟩ := h
  exact (cell_of_row W kb j cs _ _ h1).trans (h2 j hj)
theorem BytesAt.new (w : World) (s : ByteArray) : BytesAt (Lib.bytesWorld w 5 s) w.heap.size s := by
  refine ⟨_, _, Lib.bytesWorld_at_new w 5 s, fun j h => ?_⟩
  have h1 := Lib.bytesWorld_cell w 5 s j h
  rw [cell_of_row _ _ j _ _ _ (Lib.bytesWorld_at_new w 5 s)] at h1
  rw [h1]
  have h2 : s.data.toList.getD j 0 = s[j] := by
    have := drop_at s j h
    rw [List.getD_eq_getElem?_getD, ← List.head?_drop, this]
    rfl
  rw [h2]
/-- The bytes that are written, and all that stays. -/
def WrSt (s : ByteArray) (w : World) (kb : Nat) (W : World) (l : List UInt8) (v : Value) : Prop :=
  W.ownsRow w.heap.size 5 1 v l.length (Lib.byteCells l) ∧ BytesAt W kb s ∧ Below w.heap.size w W
theorem WrSt.push {s : ByteArray} {w W W' : World} {kb : Nat} {l m : List UInt8} {v v' : Value} (h : WrSt s w kb W l v) (X : World) (hX : Below W.heap.size W X) (hg : X.grownBy W' v.ownBlock)
    (hown : W'.ownsRow w.heap.size 5 1 v' (l.length + m.length) (Lib.byteCells l ++ Lib.byteCells m)) : WrSt s w kb W' (l ++ m) v' := by
  have h2 := own_below h.1 hX (Nat.le_refl _)
  have hb := h.2.1.at_ (hX.block kb h.2.1.lt)
  refine ⟨by rw [Lib.byteCells_append, List.length_append]; exact hown, hb.at_ (hg.block kb hb.lt (hb.ne h2)), (gr_call h.2.2 hX).grown hg ?_ (fun k hk => (h2.lt k hk).1)⟩
  have := h.2.2.size; have := hX.size; omega

attribute [-go_sem] Builtin.append_
set_option maxRecDepth 100000 in
set_option maxHeartbeats 4000000 in
theorem wWrite (s : ByteArray) (w : World) (hs : s.size ≤ 100000000) :
    Calls Tryd.prog 16 #[.string s] w fun e w' => e = .returned (.string (mkB (wrW s.data.toList))) ∧ Below w.heap.size w w' := by
  obtain ⟨i0, hi, hz0, hz1, hz2⟩ := info_parts infoByte
  have hcv := fun W => Lib.run_convert_string_bytes (P := Tryd.prog) W 9 65 5 s (u := .string) Tryd.underlying9 Tryd.underlying65 Tryd.underlying5
  have hba := wBare s w (by omega)
  cases hb : bareW s.data.toList
  · have hw : wrW s.data.toList = 34 :: (wrQ s.data.toList ++ [34]) := by unfold wrW; rw [hb, if_neg (by decide)]
    rw [hb] at hba
    have HW := Lib.hid hw
    clear hw hb
    go_enter Tryd.func16, Tryd.ntmps16
    go_wp2_with (fail)
    refine hba.mono ?_
    rintro e W1 ⟨rfl, h1⟩
    have hk0 : WrSt s w (W1.heap.size + 1) (Lib.bytesWorld (W1.alloc (.cells #[.int .u8 34] 5)) 5 s) [34] (.slice (some ⟨W1.heap.size, 0, none⟩) 1 1) := by
      have ho := World.ownsRow_lit (base := W1.heap.size) (size := 1) (e := 5) W1 #[.int .u8 34] 1 (Nat.le_refl _) (by unfold maxLen; omega) rfl
      have hb2 : Below (W1.alloc (.cells #[.int .u8 34] 5)).heap.size (W1.alloc (.cells #[.int .u8 34] 5)) (Lib.bytesWorld (W1.alloc (.cells #[.int .u8 34] 5)) 5 s) := Lib.bytesWorld_below _ _ _
      refine ⟨own_weaken (own_below ho hb2 (Nat.le_refl _)) h1.size, ?_, gr_call (gr_alloc h1 _) hb2⟩
      have := BytesAt.new (W1.alloc (.cells #[.int .u8 34] 5)) s
      rw [World.size_alloc] at this
      exact this
    have K := Lib.hid hk0
    clear hk0 h1 hba
    go_wp2_with (fail)
    go_loopg [3, 13] s.size (fun n ov iv wr => ∃ k : Nat, n = s.size - k ∧ k ≤ s.size ∧ iv = .int .i64 (k : Int) ∧ WrSt s w (W1.heap.size + 1) wr (34 :: wrQ (s.data.toList.take k)) ov)
    case atStart => exact ⟨0, rfl, Nat.zero_le _, rfl, K.out⟩
    case round =>
      obtain ⟨k, hn, hk, rfl, hst⟩ := hrel
      obtain ⟨va, vc, rfl⟩ := own_slice hst.1
      have hle := wrQ_len (s.data.toList.take k)
      rw [List.length_take] at hle
      have hll : (34 :: wrQ (s.data.toList.take k)).length ≤ 400000002 := by rw [List.length_cons]; omega
      generalize hL : (34 :: wrQ (s.data.toList.take k)) = L at hst hll ⊢
      have hWz := hst.2.2.size
      by_cases hlt : k < s.size
      · have c0 := hst.2.1.cell hlt
        have hkl := hst.2.1.lt
        obtain ⟨x, hx⟩ : ∃ x, x = s[k] := ⟨_, rfl⟩
        have hxs : s[k] = x := hx.symm
        rw [hxs] at c0
        have hxb := u8_bound x
        have htk := take_at s k hlt
        rw [hxs] at htk
        have hLn : ∀ m, wr1 x = m → 34 :: wrQ (s.data.toList.take (k + 1)) = L ++ m := fun m hm => by rw [htk, wrQ_snoc, hm, ← hL]; rfl
        have A := Lib.hid (And.intro hn (And.intro hst hLn))
        clear hn hst hLn hx htk hL hle
        by_cases hq : x = 34 ∨ x = 92
        · have hw1 : wr1 x = [92, x] := by unfold wr1; rw [if_pos hq]
          have HL := Lib.hid (A.out.2.2 _ hw1)
          clear hw1
          rcases hq with rfl | rfl
          · go_wp2_with (at_builtin; refine wpList_append_own _ rfl _ _ 65 rfl w.heap.size 5 i0 (.int .u8 0) 1 1 Tryd.underlying65 hi hz0 hz1 hz2 rfl (by decide) _ _ _ rfl (A.out.2.1.1.alloc _) ⟨wr.heap.size, 0, none⟩ 2 2 (Lib.byteCells [92, 34]) rfl rfl ?c1 ?c2 ?c3 ?c4 ?c5 ?_)
            case c1 => exact many_new rfl _ _
            case c2 => exact bytes_one _
            case c3 => unfold maxLen; omega
            case c4 => omega
            case c5 => simp; omega
            intro v' W2 hown' hgrow _
            have S := Lib.hid (A.out.2.1.push _ (gr_alloc (Below.refl _ _) _) hgrow hown')
            obtain ⟨vb, vd, rfl⟩ := own_slice hown'
            clear hown' hgrow
            go_wp2_with (fail)
            go_roundg (s.size - (k + 1))
            case measure => have := A.out.1; omega
            case rel => exact ⟨k + 1, rfl, hlt, rfl, by rw [HL.out]; exact S.out⟩
          · go_wp2_with (at_builtin; refine wpList_append_own _ rfl _ _ 65 rfl w.heap.size 5 i0 (.int .u8 0) 1 1 Tryd.underlying65 hi hz0 hz1 hz2 rfl (by decide) _ _ _ rfl (A.out.2.1.1.alloc _) ⟨wr.heap.size, 0, none⟩ 2 2 (Lib.byteCells [92, 92]) rfl rfl ?c1 ?c2 ?c3 ?c4 ?c5 ?_)
            case c1 => exact many_new rfl _ _
            case c2 => exact bytes_one _
            case c3 => unfold maxLen; omega
            case c4 => omega
            case c5 => simp; omega
            intro v' W2 hown' hgrow _
            have S := Lib.hid (A.out.2.1.push _ (gr_alloc (Below.refl _ _) _) hgrow hown')
            obtain ⟨vb, vd, rfl⟩ := own_slice hown'
            clear hown' hgrow
            go_wp2_with (fail)
            go_roundg (s.size - (k + 1))
            case measure => have := A.out.1; omega
            case rel => exact ⟨k + 1, rfl, hlt, rfl, by rw [HL.out]; exact S.out⟩
        · by_cases hp : 32 ≤ x.toNat ∧ x.toNat ≤ 126
          · have hw1 : wr1 x = [x] := by unfold wr1; rw [if_neg hq, if_pos hp]
            have HL := Lib.hid (A.out.2.2 _ hw1)
            have b1 : ((x.toNat : Int) == 34) = false := beq_eq_false_iff_ne.2 (by have : x.toNat ≠ 34 := fun e => hq (.inl (UInt8.toNat_inj.1 (by rw [e]; rfl))); omega)
            have b2 : ((x.toNat : Int) == 92) = false := beq_eq_false_iff_ne.2 (by have : x.toNat ≠ 92 := fun e => hq (.inr (UInt8.toNat_inj.1 (by rw [e]; rfl))); omega)
            have b3 : (32 : Int) ≤ x.toNat := by omega
            have b4 : (x.toNat : Int) ≤ 126 := by omega
            clear hw1 hp hq
            go_wp2_with (at_builtin; refine wpList_append_own _ rfl _ _ 65 rfl w.heap.size 5 i0 (.int .u8 0) 1 1 Tryd.underlying65 hi hz0 hz1 hz2 rfl (by decide) _ _ _ rfl (A.out.2.1.1.alloc _) ⟨wr.heap.size, 0, none⟩ 1 1 (Lib.byteCells [x]) rfl rfl ?c1 ?c2 ?c3 ?c4 ?c5 ?_)
            case c1 => exact many_new rfl _ _
            case c2 => exact bytes_one _
            case c3 => unfold maxLen; omega
            case c4 => omega
            case c5 => simp; omega
            intro v' W2 hown' hgrow _
            have S := Lib.hid (A.out.2.1.push _ (gr_alloc (Below.refl _ _) _) hgrow hown')
            obtain ⟨vb, vd, rfl⟩ := own_slice hown'
            clear hown' hgrow
            go_wp2_with (fail)
            go_roundg (s.size - (k + 1))
            case measure => have := A.out.1; omega
            case rel => exact ⟨k + 1, rfl, hlt, rfl, by rw [HL.out]; exact S.out⟩
          · have hw1 : wr1 x = [92, 120, hexl (x.toNat / 16), hexl (x.toNat % 16)] := by unfold wr1; rw [if_neg hq, if_neg hp]
            have HL := Lib.hid (A.out.2.2 _ hw1)
            have b1 : ((x.toNat : Int) == 34) = false := beq_eq_false_iff_ne.2 (by have : x.toNat ≠ 34 := fun e => hq (.inl (UInt8.toNat_inj.1 (by rw [e]; rfl))); omega)
            have b2 : ((x.toNat : Int) == 92) = false := beq_eq_false_iff_ne.2 (by have : x.toNat ≠ 92 := fun e => hq (.inr (UInt8.toNat_inj.1 (by rw [e]; rfl))); omega)
            have e1 := fun h' => hexls_at (x.toNat / 16) (by omega) h'
            have e2 := fun h' => hexls_at (x.toNat % 16) (by omega) h'
            have hx0 : 0 ≤ (x.toNat : Int) := by omega
            have w1 : (x.toNat : Int) / 2 ^ 4 = (x.toNat : Int) / 16 := by rw [show (2 : Int) ^ 4 = 16 from rfl]
            have w1b : IntKind.u8.wrap ((x.toNat : Int) / 16) = (x.toNat : Int) / 16 := IntWalk.u8_in _ (by omega)
            have w2 := and15 x
            have w3 : (x.toNat : Int) / 16 < 16 := by omega
            have w4 : (x.toNat : Int) % 16 < 16 := by omega
            have w5 : 0 ≤ (x.toNat : Int) / 16 := by omega
            have w6 : 0 ≤ (x.toNat : Int) % 16 := by omega
            have w7 : ((x.toNat : Int) / 16).toNat = x.toNat / 16 := by omega
            have w8 : ((x.toNat : Int) % 16).toNat = x.toNat % 16 := by omega
            have hbl : Below wr.heap.size wr (wr.alloc (.cells #[.int .u8 92, .int .u8 120, .int .u8 ((hexl (x.toNat / 16)).toNat : Int), .int .u8 ((hexl (x.toNat % 16)).toNat : Int)] 5)).drew := (gr_alloc (Below.refl _ _) _).drew
            obtain ⟨v', W2, hrun, hown', hgrow, _⟩ := run_append_own (P := Tryd.prog) (wr.alloc (.cells #[.int .u8 92, .int .u8 120, .int .u8 ((hexl (x.toNat / 16)).toNat : Int), .int .u8 ((hexl (x.toNat % 16)).toNat : Int)] 5)).drew w.heap.size 65 65 5 i0 _ 1 1 Tryd.underlying65 hi hz0 hz1 hz2 rfl (by decide) _ _ _ (own_below A.out.2.1.1 hbl (Nat.le_refl _))
              ⟨wr.heap.size, 0, none⟩ 4 4 (Lib.byteCells [92, 120, hexl (x.toNat / 16), hexl (x.toNat % 16)]) rfl (many_new rfl (Lib.byteCells [92, 120, hexl (x.toNat / 16), hexl (x.toNat % 16)]) _) (bytes_one _) (by unfold maxLen; omega) (by omega) (by simp; omega)
            have S := Lib.hid (A.out.2.1.push _ hbl hgrow hown')
            obtain ⟨vb, vd, rfl⟩ := own_slice hown'
            clear hown' hgrow hbl hw1 hq
            by_cases hp2 : 32 ≤ x.toNat
            · have b3 : (32 : Int) ≤ x.toNat := by omega
              have b4 : ¬ (x.toNat : Int) ≤ 126 := by omega
              clear hp
              go_wp2_with (fail)
              go_region
              all_goals
                clear w1 w1b w2 w3 w4 w5 w6 w7 w8 e1 e2
                go_wp2_with (fail)
                go_roundg (s.size - (k + 1))
                case measure => have := A.out.1; omega
                case rel => exact ⟨k + 1, rfl, hlt, rfl, by rw [HL.out]; exact S.out⟩
            · have b3 : ¬ (32 : Int) ≤ x.toNat := by omega
              clear hp
              go_wp2_with (fail)
              go_region
              all_goals
                clear w1 w1b w2 w3 w4 w5 w6 w7 w8 e1 e2
                go_wp2_with (fail)
                go_roundg (s.size - (k + 1))
                case measure => have := A.out.1; omega
                case rel => exact ⟨k + 1, rfl, hlt, rfl, by rw [HL.out]; exact S.out⟩
      · have hke : k = s.size := by omega
        have ht : s.data.toList.take k = s.data.toList := List.take_of_length_le (by rw [size_data]; omega)
        have A := Lib.hid (And.intro hst (And.intro ht hL))
        clear hn hst hL ht
        go_wp2_with (at_builtin; refine wpList_append_own _ rfl _ _ 65 rfl w.heap.size 5 i0 (.int .u8 0) 1 1 Tryd.underlying65 hi hz0 hz1 hz2 rfl (by decide) _ _ _ rfl (A.out.1.1.alloc _) ⟨wr.heap.size, 0, none⟩ 1 1 (Lib.byteCells [34]) rfl rfl ?c1 ?c2 ?c3 ?c4 ?c5 ?_)
        case c1 => exact many_new rfl _ _
        case c2 => exact bytes_one _
        case c3 => unfold maxLen; omega
        case c4 => omega
        case c5 => simp; omega
        intro v' W2 hown' hgrow _
        have S := A.out.1.push _ (gr_alloc (Below.refl _ _) _) hgrow hown'
        have hcv2 := run_own_string (P := Tryd.prog) (w := W2) (src := 65) (dst := 9) Tryd.underlying65 Tryd.underlying5 Tryd.underlying9 rfl S.1
        have SS := Lib.hid S
        clear hown' hgrow S
        go_wp2_with (fail)
        go_ret
        refine ⟨?_, SS.out.2.2⟩
        rw [HW.out, ← A.out.2.2, A.out.2.1]; rfl
  · have hw : wrW s.data.toList = s.data.toList := by unfold wrW; rw [hb, if_pos rfl]
    rw [hb] at hba
    have HW := Lib.hid hw
    clear hw hb
    go_enter Tryd.func16, Tryd.ntmps16
    go_wp2_with (fail)
    refine hba.mono ?_
    rintro e W1 ⟨rfl, h1⟩
    go_wp2_with (fail)
    go_ret
    exact ⟨by rw [HW.out, mkB_of]; rfl, h1⟩
end Go.Proofs.YtpicenopiigfpaaDoor
