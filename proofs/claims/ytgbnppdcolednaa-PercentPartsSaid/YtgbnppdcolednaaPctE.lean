/-
  percent.put, Encode and Length: the canonical encoding, as the plain functions say; condition: strings of at most 1000000000 bytes.
-/
import Derived.Test.YtgbnppdcolednaaPctD
import Derived.Test.YtgbnppdcolednaaStrb
import Derived.Test.YtgbnppdcolednaaSetHas
import Derived.Lib.ConvBytes
import Derived.Deep.RegionWith
import Derived.StillTailTactics
namespace Go.Proofs.Ytgbnppdcolednaa
open Go.RowKit
set_option linter.unusedVariables false
set_option linter.unusedSimpArgs false

/-- A slice that reads as the bytes l; its cells lie below B, and not in block b. -/
def RdB (w : World) (B b : Nat) (A : Option Addr) (l : List UInt8) : Prop := ∀ j (hj : j < l.length), ∃ ad, A = some ad ∧ ad.block < B ∧ ad.block ≠ b ∧ w.cell? (ad.add j) = some (.int .u8 (l[j].toNat : Int))
theorem block_of_add (a : Addr) (n : Nat) : (a.add n).block = a.block := by unfold Addr.add; split <;> rfl

def PutSt (S : Nat → Nat) (B b : Nat) (w0 : World) (bs : List Value) (W : World) : Prop :=
  Bld B b bs W ∧ BelowX B b w0 W ∧ Blk W w0.heap.size 31 #[.int .u64 (S 0 : Int), .int .u64 (S 1 : Int), .int .u64 (S 2 : Int), .int .u64 (S 3 : Int)]
theorem PutSt.below {S : Nat → Nat} {B b : Nat} {w0 : World} {bs : List Value} {W W' : World} (h : PutSt S B b w0 bs W) (hB : B ≤ W.heap.size) (hb : Below W.heap.size W W') : PutSt S B b w0 bs W' :=
  ⟨h.1.below hb, h.2.1.trans (.of_below (hb.mono hB) b), h.2.2.below hb h.2.2.lt⟩
theorem PutSt.write {S : Nat → Nat} {B b : Nat} {w0 : World} {bs cs : List Value} {W W' : World} (h : PutSt S B b w0 bs W) (hlt : b < w0.heap.size) (k : Bld B b cs W' ∧ BelowX B b W W' ∧ Others 5 b W W') : PutSt S B b w0 cs W' :=
  ⟨k.1, h.2.1.trans k.2.1, k.2.2 _ _ _ h.2.2 (by omega) (by decide)⟩
theorem PutSt.room {S : Nat → Nat} {B b : Nat} {w0 : World} {bs : List Value} {W : World} (h : PutSt S B b w0 bs W) (hB : B ≤ w0.heap.size) : B ≤ W.heap.size := Nat.le_trans hB h.2.1.size

theorem hex_at : ∀ n : Nat, n < 16 → ([48, 49, 50, 51, 52, 53, 54, 55, 56, 57, 65, 66, 67, 68, 69, 70] : List UInt8)[n]? = some (hexd n) := by decide
theorem hexs_at (n : Nat) (h : n < 16) (h' : n < ({ data := #[48, 49, 50, 51, 52, 53, 54, 55, 56, 57, 65, 66, 67, 68, 69, 70] } : ByteArray).size) : ({ data := #[48, 49, 50, 51, 52, 53, 54, 55, 56, 57, 65, 66, 67, 68, 69, 70] } : ByteArray)[n]'h' = hexd n := by
  have e := hex_at n h
  rw [List.getElem?_eq_some_iff] at e
  obtain ⟨_, e⟩ := e
  exact e
theorem encB_stay {S : Nat → Nat} {x : UInt8} (h : x ≠ 37) (hh : hasS S x = true) : encB S x = [x] := by unfold encB; rw [if_pos ⟨h, hh⟩]
theorem encB_esc {S : Nat → Nat} {x : UInt8} (h : x = 37 ∨ hasS S x = false) : encB S x = [37, hexd (x.toNat / 16), hexd (x.toNat % 16)] := by
  unfold encB
  rw [if_neg]
  rintro ⟨h1, h2⟩
  rcases h with h | h
  · exact h1 h
  · unfold hasS at h; rw [h2] at h; cases h

def PutRel (S : Nat → Nat) (l : List UInt8) (B b : Nat) (w0 : World) (n : Nat) (i : Value) (wr : World) : Prop :=
  ∃ k : Nat, k ≤ l.length ∧ n = l.length - k ∧ i = .int .i64 (k : Int) ∧ Bld B b (Lib.byteCells (encL S (l.take k))) wr ∧ BelowX B b w0 wr ∧ Blk wr w0.heap.size 31 #[.int .u64 (S 0 : Int), .int .u64 (S 1 : Int), .int .u64 (S 2 : Int), .int .u64 (S 3 : Int)]

set_option maxRecDepth 100000 in
set_option maxHeartbeats 1000000 in
theorem pput (S : Nat → Nat) (hS : ∀ k, S k < 2 ^ 64) (l : List UInt8) (A : Option Addr) (n c B b : Nat) (w : World) (hn : n = l.length) (hB : B ≤ w.heap.size) (hA : RdB w B b A l) (hb : Bld B b [] w) (hl : l.length ≤ 1000000000) :
    Calls Try.prog 37 #[.pointer (some ⟨b, 0, none⟩), .agg #[.int .u64 (S 0 : Int), .int .u64 (S 1 : Int), .int .u64 (S 2 : Int), .int .u64 (S 3 : Int)], .slice A n c] w fun e w' => e = .returned (.tuple #[]) ∧ Bld B b (Lib.byteCells (encL S l)) w' ∧ BelowX B b w w' := by
  have hblt := hb.lt
  have hA := Lib.hid hA
  have hb := Lib.hid hb
  have hS := Lib.hid hS
  subst hn
  go_enter Try.func37, Try.ntmps37
  go_wp2_with (fail)
  go_loopg [10] l.length (fun n i wr => PutRel S l B b w n i wr)
  case atStart => exact ⟨0, Nat.zero_le _, rfl, rfl, (hb.out).alloc _, (BelowX.refl _ _ _).alloc hB _, Blk.new _ _ _⟩
  case round =>
    obtain ⟨k, hk, hm, rfl, hbd, hbx, hbk⟩ := hrel
    by_cases hlt : k < l.length
    · obtain ⟨ad, rfl, had, hadb, hcell⟩ := hA.out k hlt
      have hcell' : wr.cell? (ad.add k) = some (.int .u8 (l[k].toNat : Int)) := by rw [hbx.cell (by rw [block_of_add]; exact had) (by rw [block_of_add]; exact hadb)]; exact hcell
      clear hcell
      obtain ⟨x, hx⟩ : ∃ x, x = l[k] := ⟨_, rfl⟩
      rw [← hx] at hcell'
      have b0 := hbk.cell' (i := 0) (v := .int .u64 (S 0 : Int)) rfl
      have b1 := hbk.cell' (i := 1) (v := .int .u64 (S 1 : Int)) rfl
      have b2 := hbk.cell' (i := 2) (v := .int .u64 (S 2 : Int)) rfl
      have b3 := hbk.cell' (i := 3) (v := .int .u64 (S 3 : Int)) rfl
      have hxb := u8_bound x
      have hx0 : 0 ≤ (x.toNat : Int) := by omega
      have hlen : (Lib.byteCells (encL S (l.take k))).length ≤ 3000000000 := by
        rw [Lib.byteCells_length]; have := encL_len S (l.take k); rw [List.length_take] at this; omega
      have hsz := hbx.size
      have A1 := Lib.hid (And.intro hm (And.intro hbd (And.intro hbx (And.intro hbk hx))))
      clear hm hbd hbx hbk hx hA hb
      have e1 := fun h' => hexs_at (x.toNat / 16) (by omega) h'
      have e2 := fun h' => hexs_at (x.toNat % 16) (by omega) h'
      by_cases h37 : x = 37
      · subst h37
        have st1 : PutSt S B b w _ wr := ⟨A1.out.2.1, A1.out.2.2.1, A1.out.2.2.2.1⟩
        clear e1 e2
        go_wp2_with (fail)
        refine (Bld_WriteByte B b _ _ _ st1.1 (by omega) (st1.room hB)).mono ?_
        rintro e W2 ⟨rfl, k2⟩
        have st2 := st1.write hblt k2
        clear k2 st1
        go_wp2_with (fail)
        refine (Bld_WriteByte B b _ _ _ st2.1 (by simp; omega) (st2.room hB)).mono ?_
        rintro e W3 ⟨rfl, k3⟩
        have st3 := st2.write hblt k3
        clear k3 st2
        go_wp2_with (fail)
        refine (Bld_WriteByte B b _ _ _ st3.1 (by simp; omega) (st3.room hB)).mono ?_
        rintro e W4 ⟨rfl, k4⟩
        have st4 := st3.write hblt k4
        clear k4 st3
        go_wp2_with (fail)
        go_roundg (l.length - (k + 1))
        case measure => have := A1.out.1; omega
        case rel =>
          refine ⟨k + 1, by omega, rfl, rfl, ?_, st4.2.1, st4.2.2⟩
          have e : Lib.byteCells (encL S (l.take (k + 1))) = Lib.byteCells (encL S (l.take k)) ++ [.int .u8 37] ++ [.int .u8 ((hexd ((37 : UInt8).toNat / 16)).toNat : Int)] ++ [.int .u8 ((hexd ((37 : UInt8).toNat % 16)).toNat : Int)] := by
            rw [List.take_succ_eq_append_getElem hlt, encL_append, encL_one, ← A1.out.2.2.2.2, encB_esc (.inl rfl), Lib.byteCells_append]; simp [Lib.byteCells]
          rw [e]
          exact st4.1
      · have h37' : ((x.toNat : Int) != 37) = true := by simpa using fun e => h37 (u8_ext (by simpa using e))
        clear h37
        cases hhas : hasS S x
        · have hH := Lib.hid hhas
          go_wp2_with (go_at_call 40; refine (bhas S x _ hS.out).mono ?_; rintro e W1 ⟨rfl, hw1⟩)
          have st0 : PutSt S B b w _ wr := ⟨A1.out.2.1, A1.out.2.2.1, A1.out.2.2.2.1⟩
          have st1 := st0.below (st0.room hB) hw1
          refine (Bld_WriteByte B b _ _ _ st1.1 (by omega) (st1.room hB)).mono ?_
          rintro e W2 ⟨rfl, k2⟩
          have st2 := st1.write hblt k2
          clear k2 st0 st1 hw1
          go_wp2_with (fail)
          refine (Bld_WriteByte B b _ _ _ st2.1 (by simp only [List.length_append, List.length_cons, List.length_nil]; omega) (st2.room hB)).mono ?_
          rintro e W3 ⟨rfl, k3⟩
          have st3 := st2.write hblt k3
          clear k3 st2
          go_wp2_with (fail)
          refine (Bld_WriteByte B b _ _ _ st3.1 (by simp only [List.length_append, List.length_cons, List.length_nil]; omega) (st3.room hB)).mono ?_
          rintro e W4 ⟨rfl, k4⟩
          have st4 := st3.write hblt k4
          clear k4 st3
          go_wp2_with (fail)
          go_roundg (l.length - (k + 1))
          case measure => have := A1.out.1; omega
          case rel =>
            refine ⟨k + 1, by omega, rfl, rfl, ?_, st4.2.1, st4.2.2⟩
            have e : Lib.byteCells (encL S (l.take (k + 1))) = Lib.byteCells (encL S (l.take k)) ++ [.int .u8 37] ++ [.int .u8 ((hexd (x.toNat / 16)).toNat : Int)] ++ [.int .u8 ((hexd (x.toNat % 16)).toNat : Int)] := by
              rw [List.take_succ_eq_append_getElem hlt, encL_append, encL_one, ← A1.out.2.2.2.2, encB_esc (.inr hH.out), Lib.byteCells_append]; simp [Lib.byteCells]
            rw [e]
            exact st4.1
        · have hH := Lib.hid hhas
          go_wp2_with (go_at_call 40; refine (bhas S x _ hS.out).mono ?_; rintro e W1 ⟨rfl, hw1⟩)
          have st0 : PutSt S B b w _ wr := ⟨A1.out.2.1, A1.out.2.2.1, A1.out.2.2.2.1⟩
          have st1 := st0.below (st0.room hB) hw1
          refine (Bld_WriteByte B b _ _ _ st1.1 (by omega) (st1.room hB)).mono ?_
          rintro e W2 ⟨rfl, k2⟩
          have st2 := st1.write hblt k2
          clear k2 st0 st1 hw1
          go_wp2_with (fail)
          go_roundg (l.length - (k + 1))
          case measure => have := A1.out.1; omega
          case rel =>
            refine ⟨k + 1, by omega, rfl, rfl, ?_, st2.2.1, st2.2.2⟩
            have e : Lib.byteCells (encL S (l.take (k + 1))) = Lib.byteCells (encL S (l.take k)) ++ [.int .u8 (x.toNat : Int)] := by
              rw [List.take_succ_eq_append_getElem hlt, encL_append, encL_one, ← A1.out.2.2.2.2, encB_stay (fun e => by rw [e] at h37'; simp at h37') hH.out, Lib.byteCells_append]; rfl
            rw [e]
            exact st2.1
    · have hke : k = l.length := by omega
      have A1 := Lib.hid (And.intro hke (And.intro hbd (And.intro hbx hbk)))
      clear hke hbd hbx hbk hm
      go_wp2_with (fail)
      go_end0
      obtain ⟨hke, hbd, hbx, hbk⟩ := A1.out
      exact ⟨rfl, by rw [hke, List.take_length] at hbd; exact hbd, hbx⟩

/-- A string as it is written. -/
def encS (S : Nat → Nat) (s : ByteArray) : ByteArray := ⟨(encL S s.data.toList).toArray⟩

theorem bytes_below (w : World) (e : TypeId) (s : ByteArray) (B : Nat) (hB : B ≤ w.heap.size) : Below B w (Lib.bytesWorld w e s) := by
  refine ⟨?_, ?_, ?_, by rw [Lib.bytesWorld_size]; omega, fun k hk => Lib.bytesWorld_at_old w e s k (by omega)⟩ <;>
    simp [Lib.bytesWorld, World.freeze, World.alloc, World.drew, -World.alloc_eq, -World.drew_eq] <;> split <;> rfl

theorem enc_ready (S : Nat → Nat) (s : ByteArray) (w W : World) (hW : W = Lib.bytesWorld ((w.alloc (.cells #[.int .u64 (S 0 : Int), .int .u64 (S 1 : Int), .int .u64 (S 2 : Int), .int .u64 (S 3 : Int)] 31)).alloc (.cells #[.pointer none, .slice none 0 0] 64)) 5 s) :
    RdB W (w.heap.size + 3) (w.heap.size + 1) (some ⟨w.heap.size + 1 + 1, 0, none⟩) s.data.toList ∧ Bld (w.heap.size + 3) (w.heap.size + 1) [] W ∧ W.heap.size = w.heap.size + 3 ∧ Below w.heap.size w W := by
  subst hW
  have hz : ((w.alloc (.cells #[.int .u64 (S 0 : Int), .int .u64 (S 1 : Int), .int .u64 (S 2 : Int), .int .u64 (S 3 : Int)] 31)).alloc (.cells #[.pointer none, .slice none 0 0] 64)).heap.size = w.heap.size + 1 + 1 := by simp
  refine ⟨?_, ?_, ?_, ?_⟩
  · intro j hj
    refine ⟨_, rfl, by simp, by simp, ?_⟩
    have := Lib.bytesWorld_cell ((w.alloc (.cells #[.int .u64 (S 0 : Int), .int .u64 (S 1 : Int), .int .u64 (S 2 : Int), .int .u64 (S 3 : Int)] 31)).alloc (.cells #[.pointer none, .slice none 0 0] 64)) 5 s j (by rw [← size_data]; exact hj)
    rw [hz] at this
    rw [Addr.add_lit, Nat.zero_add, this]
    rw [List.getD_eq_getElem?_getD, List.getElem?_eq_getElem hj]; rfl
  · refine Bld.fresh ?_
    refine (Lib.bytesWorld_at_old _ _ _ _ (by rw [hz]; omega)).trans ?_
    have := Blk.new (w.alloc (.cells #[.int .u64 (S 0 : Int), .int .u64 (S 1 : Int), .int .u64 (S 2 : Int), .int .u64 (S 3 : Int)] 31)) 64 #[.pointer none, .slice none 0 0]
    unfold Blk at this
    rw [show (w.alloc (.cells #[.int .u64 (S 0 : Int), .int .u64 (S 1 : Int), .int .u64 (S 2 : Int), .int .u64 (S 3 : Int)] 31)).heap.size = w.heap.size + 1 from by simp] at this
    exact this
  · rw [Lib.bytesWorld_size, hz]
  · exact (((Below.refl _ _).alloc (Nat.le_refl _) _).alloc (by simp) _).trans (bytes_below _ _ _ _ (by rw [hz]; omega))

set_option maxRecDepth 100000 in
set_option maxHeartbeats 1000000 in
theorem pencode (S : Nat → Nat) (hS : ∀ k, S k < 2 ^ 64) (s : ByteArray) (w : World) (hs : s.size ≤ 1000000000) :
    Calls Try.prog 21 #[.string s, .agg #[.int .u64 (S 0 : Int), .int .u64 (S 1 : Int), .int .u64 (S 2 : Int), .int .u64 (S 3 : Int)]] w fun e w' => e = .returned (.string (encS S s)) ∧ Below w.heap.size w w' := by
  have hcv := fun W => Lib.run_convert_string_bytes (P := Try.prog) W 9 58 5 s Try.underlying9 Try.underlying58 Try.underlying5
  have hS := Lib.hid hS
  go_enter Try.func21, Try.ntmps21
  go_wp2_with (fail)
  obtain ⟨h1, h2, h3, h4⟩ := enc_ready S s w _ rfl
  refine (pput S hS.out s.data.toList _ _ _ (w.heap.size + 3) (w.heap.size + 1) _ (size_data s).symm (by exact Nat.le_of_eq h3.symm) h1 h2 (by rw [size_data]; exact hs)).mono ?_
  rintro e W1 ⟨rfl, hb1, hx1⟩
  have hbel := h4.trans (hx1.below (B' := w.heap.size) (by omega) (by omega))
  have hsz := hx1.size
  rw [h3] at hsz
  have H := Lib.hid (And.intro hbel (hb1.isBuilder (B' := w.heap.size) (by omega) (by omega)))
  clear h1 h2 h4 hb1 hx1 hbel hcv h3
  go_wp2_with (go_at_call 38; refine (Try.Builder_String_any _ _ _ _ H.out.2 (by omega)).mono ?_; rintro e w' ⟨rfl, hw2⟩)
  go_ret
  exact ⟨rfl, H.out.1.trans hw2⟩

theorem encB_length (S : Nat → Nat) (c : UInt8) : (encB S c).length = if c ≠ 37 ∧ hasS S c = true then 1 else 3 := by
  unfold encB hasS; split <;> simp

def LenRel (S : Nat → Nat) (s : ByteArray) (w0 : World) (n : Nat) (m i : Value) (wr : World) : Prop :=
  ∃ k : Nat, k ≤ s.size ∧ n = s.size - k ∧ i = .int .i64 (k : Int) ∧ m = .int .i64 (3 * s.size - 3 * k + (encL S (s.data.toList.take k)).length : Int) ∧ Below w0.heap.size w0 wr ∧ Blk wr w0.heap.size 31 #[.int .u64 (S 0 : Int), .int .u64 (S 1 : Int), .int .u64 (S 2 : Int), .int .u64 (S 3 : Int)]

set_option maxRecDepth 100000 in
set_option maxHeartbeats 1000000 in
theorem plength (S : Nat → Nat) (hS : ∀ k, S k < 2 ^ 64) (s : ByteArray) (w : World) (hs : s.size ≤ 1000000000) :
    Calls Try.prog 23 #[.string s, .agg #[.int .u64 (S 0 : Int), .int .u64 (S 1 : Int), .int .u64 (S 2 : Int), .int .u64 (S 3 : Int)]] w fun e w' => e = .returned (.int .i64 ((encS S s).size : Int)) ∧ Below w.heap.size w w' := by
  have hS := Lib.hid hS
  go_enter Try.func23, Try.ntmps23
  go_wp2_with (fail)
  go_loopg [5, 12] s.size (fun n m i wr => LenRel S s w n m i wr)
  case atStart => exact ⟨0, Nat.zero_le _, rfl, rfl, by simp [encL], (Below.refl _ _).alloc (Nat.le_refl _) _, Blk.new _ _ _⟩
  case round =>
    obtain ⟨k, hk, hm, rfl, rfl, hbel, hbk⟩ := hrel
    have hle := encL_len S (s.data.toList.take k)
    rw [List.length_take] at hle
    by_cases hlt : k < s.size
    · obtain ⟨x, hx⟩ : ∃ x, x = s[k] := ⟨_, rfl⟩
      have hxs : s[k] = x := hx.symm
      have b0 := hbk.cell' (i := 0) (v := .int .u64 (S 0 : Int)) rfl
      have b1 := hbk.cell' (i := 1) (v := .int .u64 (S 1 : Int)) rfl
      have b2 := hbk.cell' (i := 2) (v := .int .u64 (S 2 : Int)) rfl
      have b3 := hbk.cell' (i := 3) (v := .int .u64 (S 3 : Int)) rfl
      have A1 := Lib.hid (And.intro hm (And.intro hbel (And.intro hbk hx)))
      clear hm hbel hbk hx
      have hen : (encL S (s.data.toList.take (k + 1))).length = (encL S (s.data.toList.take k)).length + (encB S x).length := by
        rw [take_at s k hlt, encL_append, encL_one, List.length_append, hxs]
      have hel := encB_length S x
      have D := Lib.hid (And.intro hen hel)
      clear hen hel
      by_cases h37 : x = 37
      · subst h37
        go_wp2_with (fail)
        go_still_tail 9, (by kernel_rfl)
        change wpList _ _ _ _ _ wr.drew
        go_wp2_with (fail)
        go_roundg (s.size - (k + 1))
        case measure => have := A1.out.1; omega
        case rel =>
          obtain ⟨d1, d2⟩ := D.out
          rw [if_neg (by simp)] at d2
          exact ⟨k + 1, by omega, rfl, rfl, by congr 1; omega, A1.out.2.1.drew, A1.out.2.2.1⟩
      · have h37' : ((x.toNat : Int) != 37) = true := by simpa using fun e => h37 (u8_ext (by simpa using e))
        have H37 := Lib.hid h37
        clear h37
        cases hhas : hasS S x
        · have hH := Lib.hid hhas
          go_wp2_with (fail)
          go_still_tail 9, (by kernel_rfl)
          change wpList _ _ _ _ _ wr.drew
          go_wp2_with (go_at_call 40; refine (bhas S x _ hS.out).mono ?_; rintro e W1 ⟨rfl, hw1⟩)
          go_roundg (s.size - (k + 1))
          case measure => have := A1.out.1; omega
          case rel =>
            obtain ⟨d1, d2⟩ := D.out
            rw [if_neg (by rw [hH.out]; simp)] at d2
            have hbk := A1.out.2.2.1
            exact ⟨k + 1, by omega, rfl, rfl, by congr 1; omega, A1.out.2.1.drew.trans ((hw1.mono (by have := A1.out.2.1.size; simpa using this))), hbk.drew.below hw1 hbk.lt⟩
        · have hH := Lib.hid hhas
          go_wp2_with (fail)
          go_still_tail 9, (by kernel_rfl)
          change wpList _ _ _ _ _ wr.drew
          go_wp2_with (go_at_call 40; refine (bhas S x _ hS.out).mono ?_; rintro e W1 ⟨rfl, hw1⟩)
          go_roundg (s.size - (k + 1))
          case measure => have := A1.out.1; omega
          case rel =>
            obtain ⟨d1, d2⟩ := D.out
            rw [if_pos ⟨H37.out, hH.out⟩] at d2
            have hbk := A1.out.2.2.1
            exact ⟨k + 1, by omega, rfl, rfl, by congr 1; omega, A1.out.2.1.drew.trans ((hw1.mono (by have := A1.out.2.1.size; simpa using this))), hbk.drew.below hw1 hbk.lt⟩
    · have hke : k = s.size := by omega
      have A1 := Lib.hid (And.intro hke hbel)
      clear hke hm hbel hbk
      go_wp2_with (fail)
      go_ret
      obtain ⟨hke, hbel⟩ := A1.out
      refine ⟨ret_int ?_, hbel⟩
      have e : (encS S s).size = (encL S s.data.toList).length := by rw [← size_data]; rfl
      rw [e, List.take_of_length_le (by rw [size_data]; omega)]
      omega
end Go.Proofs.Ytgbnppdcolednaa
