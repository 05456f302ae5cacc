/-
  Text, of byteset and of its reference: as the plain function says; no condition.
-/
import Derived.Test.YtcfdadgijnmemaaDoorSetP
namespace Go.Proofs.YtcfdadgijnmemaaDoor
open Go.RowKit
set_option linter.unusedVariables false
set_option linter.unusedSimpArgs false

/-- What has been written, and what is still to come, make up the whole. -/
def TextAt (p : Nat → Bool) (o : ByteArray) (k : Nat) : Prop := k ≤ 256 ∧ o.size ≤ 9 * k ∧ o ++ txtP p k = txtP p 0
theorem TextAt.start (p : Nat → Bool) : TextAt p ⟨#[]⟩ 0 := ⟨by omega, by decide, by apply ByteArray.ext; simp⟩
theorem TextAt.no {p : Nat → Bool} {o : ByteArray} {k : Nat} (h : TextAt p o k) (hk : k < 256) (hp : p k = false) : TextAt p o (k + 1) :=
  ⟨by omega, by have := h.2.1; omega, by rw [← txt_no p k hk hp]; exact h.2.2⟩
theorem piece_size (b l : Nat) (hb : b < 256) (hl : l < 256) (hbl : b ≤ l) : (piece b l).size ≤ 9 * (l + 1 - b) := by
  have h1 := (wrS_size b hb).1
  have h2 := (wrS_size l hl).1
  unfold piece
  split
  · omega
  · split
    · rw [ByteArray.size_append]; omega
    · rw [ByteArray.size_append, ByteArray.size_append, show ({ data := #[45] } : ByteArray).size = 1 from rfl]; omega
theorem TextAt.yes {p : Nat → Bool} {o : ByteArray} {k : Nat} (h : TextAt p o k) (hk : k < 256) (hp : p k = true) : TextAt p (o ++ piece k (runL p k)) (runL p k + 1) := by
  have hr := runL_ge p k (by omega)
  have hs := piece_size k (runL p k) hk (by omega) hr.1
  refine ⟨by omega, ?_, ?_⟩
  · rw [ByteArray.size_append]; have := h.2.1; omega
  · rw [ByteArray.append_assoc, ← txt_yes p k hk hp]; exact h.2.2
theorem TextAt.done {p : Nat → Bool} {o : ByteArray} (h : TextAt p o 256) : o = txtP p 0 := by
  have := h.2.2
  rw [txt_end, ba_nil] at this
  exact this
theorem TextAt.to {p : Nat → Bool} {o q : ByteArray} {k l m : Nat} (h : TextAt p (o ++ piece k l) m) (hq : q = o ++ piece k l) : TextAt p q m := by rw [hq]; exact h

set_option maxRecDepth 100000 in
set_option maxHeartbeats 8000000 in
theorem btext (p : Nat → Bool) (w : World) :
    Calls Tryd.prog 21 #[Value.agg #[.int .u64 (setW p 0 : Int), .int .u64 (setW p 1 : Int), .int .u64 (setW p 2 : Int), .int .u64 (setW p 3 : Int)]] w fun e w' => e = .returned (.string (txtP p 0)) ∧ Below w.heap.size w w' := by
  go_enter Tryd.func21, Tryd.ntmps21
  go_wp2_with (fail)
  go_loopw [3, 4] (fun o i wr => ∃ (k : Nat) (t : ByteArray), i = .int .i64 (k : Int) ∧ o = .string t ∧ TextAt p t k ∧ Blk wr w.heap.size 28 #[Value.int .u64 (setW p 0 : Int), .int .u64 (setW p 1 : Int), .int .u64 (setW p 2 : Int), .int .u64 (setW p 3 : Int)] ∧ Below w.heap.size w wr) (fun _ i _ => 256 - (intOf i).toNat)
  case atStart => exact ⟨0, _, rfl, rfl, TextAt.start p, Blk.new _ _ _, gr_alloc (Below.refl _ _) _⟩
  case round =>
    obtain ⟨k, t, rfl, rfl, hat, hblk, hB⟩ := hrel
    have hk := hat.1
    have hts := hat.2.1
    by_cases hlt : k < 256
    · have hw1 : IntKind.u8.wrap (k : Int) = (k : Int) := by rw [IntKind.wrap_u8]; omega
      have a0 := hblk.cell' (i := 0) rfl
      have a1 := hblk.cell' (i := 1) rfl
      have a2 := hblk.cell' (i := 2) rfl
      have a3 := hblk.cell' (i := 3) rfl
      have HD := Lib.hid (And.intro hat (And.intro hblk hB))
      clear hat hblk hB
      cases h1 : p k
      · have HP := Lib.hid h1
        clear h1
        go_wp2_with (fail)
        refine (bhasp p k (by omega) _).mono ?_
        rintro e W1 ⟨rfl, hb1⟩
        rw [HP.out]
        have HE := Lib.hid hb1
        clear hb1
        go_wp2_with (fail)
        obtain ⟨hat, hblk, hB⟩ := HD.out
        exact ⟨⟨k + 1, t, by go_num, rfl, hat.no hlt HP.out, hblk.call HE.out, gr_call hB HE.out⟩, by simp [intOf]; omega⟩
      · have HP := Lib.hid h1
        clear h1
        go_wp2_with (fail)
        refine (bhasp p k (by omega) _).mono ?_
        rintro e W1 ⟨rfl, hb1⟩
        rw [HP.out]
        have HE := Lib.hid hb1
        clear hb1
        obtain ⟨L, hL⟩ : ∃ L, L = runL p k := ⟨_, rfl⟩
        have HL := Lib.hid hL
        have hLk : k ≤ L ∧ L ≤ 255 := by rw [hL]; exact runL_ge p k (by omega)
        obtain ⟨hLk1, hLk2⟩ := hLk
        clear hL a0 a1 a2 a3
        go_wp2_with (fail)
        obtain ⟨wo, rfl⟩ : ∃ wo : World, wo = W1 := ⟨_, rfl⟩
        go_loopw [5] (fun i wx => ∃ m : Nat, k ≤ m ∧ m ≤ L ∧ i = .int .i64 (m : Int) ∧ runL p m = L ∧ Blk wx w.heap.size 28 #[Value.int .u64 (setW p 0 : Int), .int .u64 (setW p 1 : Int), .int .u64 (setW p 2 : Int), .int .u64 (setW p 3 : Int)] ∧ Below wo.heap.size wo wx) (fun i _ => 256 - (intOf i).toNat)
        case atStart => exact ⟨k, by omega, by omega, rfl, HL.out.symm, HD.out.2.1.call HE.out, Below.refl _ _⟩
        case round =>
          obtain ⟨m, hm1, hm2, rfl, hrun, hblk, hB⟩ := hrel
          have c0 := hblk.cell' (i := 0) rfl
          have c1 := hblk.cell' (i := 1) rfl
          have c2 := hblk.cell' (i := 2) rfl
          have c3 := hblk.cell' (i := 3) rfl
          have HI := Lib.hid (And.intro hrun (And.intro hblk hB))
          clear hrun hblk hB
          have hwm : IntKind.u8.wrap (m : Int) = (m : Int) := by rw [IntKind.wrap_u8]; omega
          by_cases hgo : m < 255
          · have hw2 : IntKind.u8.wrap ((m : Int) + 1) = ((m + 1 : Nat) : Int) := by rw [IntKind.wrap_u8]; omega
            cases h2 : p (m + 1)
            · have HP2 := Lib.hid h2
              clear h2
              have hmL : Hid (m = L) := Lib.hid (by rw [← HI.out.1]; exact (runL_stop p m (fun _ => HP2.out)).symm)
              have h3 : m = k ∨ m = k + 1 ∨ k + 2 ≤ m := by omega
              rcases h3 with hc | hc | hc
              · have q0 : ((m : Int) - (k : Int) == 0) = true := by simp; omega
                have HQ : Hid (m = k) := Lib.hid hc
                clear hc
                go_wp2_with (fail)
                refine (bhasp p (m + 1) (by omega) _).mono ?_
                rintro e W2 ⟨rfl, hb2⟩
                rw [HP2.out]
                have HE2 := Lib.hid (gr_call HI.out.2.2 hb2)
                clear hb2
                go_wp2_with (fail)
                refine (bwrite k (by omega) _).mono ?_
                rintro e W3 ⟨rfl, hb3⟩
                have HE3 := Lib.hid (gr_call HE2.out hb3)
                clear hb3
                have z1 := wrS_size k (by omega)
                have z2 : (wrS k).size ≤ 8388608 := by omega
                have z3 : t.size ≤ 8388608 := by omega
                go_wp2_with (fail)
                obtain ⟨hat, hblk, hB⟩ := HD.out
                have hfin := hat.yes hlt HP.out
                rw [← HL.out, ← hmL.out] at hfin
                have hall := gr_call HE.out HE3.out
                refine ⟨⟨m + 1, _, by go_num, rfl, hfin.to ?_, hblk.call hall, gr_call hB hall⟩, by simp [intOf]; omega⟩
                unfold piece; rw [if_pos HQ.out]
              · have q0 : ((m : Int) - (k : Int) == 0) = false := by simp; omega
                have q1 : ((m : Int) - (k : Int) == 1) = true := by simp; omega
                have HQ : Hid (m = k + 1) := Lib.hid hc
                clear hc
                go_wp2_with (fail)
                refine (bhasp p (m + 1) (by omega) _).mono ?_
                rintro e W2 ⟨rfl, hb2⟩
                rw [HP2.out]
                have HE2 := Lib.hid (gr_call HI.out.2.2 hb2)
                clear hb2
                go_wp2_with (fail)
                refine (bwrite k (by omega) _).mono ?_
                rintro e W3 ⟨rfl, hb3⟩
                have HE3 := Lib.hid (gr_call HE2.out hb3)
                clear hb3
                have z1 := wrS_size k (by omega)
                have z2 : (wrS k).size ≤ 8388608 := by omega
                have z3 : t.size ≤ 8388608 := by omega
                have z4 := wrS_size m (by omega)
                have z5 : (wrS m).size ≤ 8388608 := by omega
                have z6 : (wrS k ++ wrS m).size ≤ 8388608 := by rw [ByteArray.size_append]; omega
                have z7 : (wrS k ++ { data := #[45] } ++ wrS m).size ≤ 8388608 := by rw [ByteArray.size_append, ByteArray.size_append, show ({ data := #[45] } : ByteArray).size = 1 from rfl]; omega
                have z8 : (wrS k ++ { data := #[45] }).size ≤ 8388608 := by rw [ByteArray.size_append, show ({ data := #[45] } : ByteArray).size = 1 from rfl]; omega
                go_wp2_with (fail)
                refine (bwrite m (by omega) _).mono ?_
                rintro e W4 ⟨rfl, hb4⟩
                have HE4 := Lib.hid (gr_call HE3.out hb4)
                clear hb4
                go_wp2_with (fail)
                obtain ⟨hat, hblk, hB⟩ := HD.out
                have hfin := hat.yes hlt HP.out
                rw [← HL.out, ← hmL.out] at hfin
                have hall := gr_call HE.out HE4.out
                refine ⟨⟨m + 1, _, by go_num, rfl, hfin.to ?_, hblk.call hall, gr_call hB hall⟩, by simp [intOf]; omega⟩
                unfold piece; rw [if_neg (by have := HQ.out; omega), if_pos HQ.out]
              · have q0 : ((m : Int) - (k : Int) == 0) = false := by simp; omega
                have q1 : ((m : Int) - (k : Int) == 1) = false := by simp; omega
                have HQ : Hid (k + 2 ≤ m) := Lib.hid hc
                clear hc
                go_wp2_with (fail)
                refine (bhasp p (m + 1) (by omega) _).mono ?_
                rintro e W2 ⟨rfl, hb2⟩
                rw [HP2.out]
                have HE2 := Lib.hid (gr_call HI.out.2.2 hb2)
                clear hb2
                go_wp2_with (fail)
                refine (bwrite k (by omega) _).mono ?_
                rintro e W3 ⟨rfl, hb3⟩
                have HE3 := Lib.hid (gr_call HE2.out hb3)
                clear hb3
                have z1 := wrS_size k (by omega)
                have z2 : (wrS k).size ≤ 8388608 := by omega
                have z3 : t.size ≤ 8388608 := by omega
                have z4 := wrS_size m (by omega)
                have z5 : (wrS m).size ≤ 8388608 := by omega
                have z6 : (wrS k ++ wrS m).size ≤ 8388608 := by rw [ByteArray.size_append]; omega
                have z7 : (wrS k ++ { data := #[45] } ++ wrS m).size ≤ 8388608 := by rw [ByteArray.size_append, ByteArray.size_append, show ({ data := #[45] } : ByteArray).size = 1 from rfl]; omega
                have z8 : (wrS k ++ { data := #[45] }).size ≤ 8388608 := by rw [ByteArray.size_append, show ({ data := #[45] } : ByteArray).size = 1 from rfl]; omega
                go_wp2_with (fail)
                refine (bwrite m (by omega) _).mono ?_
                rintro e W4 ⟨rfl, hb4⟩
                have HE4 := Lib.hid (gr_call HE3.out hb4)
                clear hb4
                go_wp2_with (fail)
                obtain ⟨hat, hblk, hB⟩ := HD.out
                have hfin := hat.yes hlt HP.out
                rw [← HL.out, ← hmL.out] at hfin
                have hall := gr_call HE.out HE4.out
                refine ⟨⟨m + 1, _, by go_num, rfl, hfin.to ?_, hblk.call hall, gr_call hB hall⟩, by simp [intOf]; omega⟩
                unfold piece; rw [if_neg (by have := HQ.out; omega), if_neg (by have := HQ.out; omega)]
            · have HP2 := Lib.hid h2
              clear h2
              go_wp2_with (fail)
              refine (bhasp p (m + 1) (by omega) _).mono ?_
              rintro e W2 ⟨rfl, hb2⟩
              rw [HP2.out]
              have HE2 := Lib.hid (gr_call HI.out.2.2 hb2)
              have HX2 := Lib.hid (HI.out.2.1.call hb2)
              clear hb2
              go_wp2_with (fail)
              have hr2 := runL_go p m hgo HP2.out
              have hr3 := runL_ge p (m + 1) (by omega)
              rw [← hr2, HI.out.1] at hr3
              exact ⟨⟨m + 1, by omega, hr3.1, by go_num, by rw [← hr2]; exact HI.out.1, HX2.out, HE2.out⟩, by simp [intOf]; omega⟩
          · have hmL : Hid (m = L) := Lib.hid (by omega)
            have h3 : m = k ∨ m = k + 1 ∨ k + 2 ≤ m := by omega
            rcases h3 with hc | hc | hc
            · have q0 : ((m : Int) - (k : Int) == 0) = true := by simp; omega
              have HQ : Hid (m = k) := Lib.hid hc
              clear hc
              have HE2 := Lib.hid HI.out.2.2
              go_wp2_with (fail)
              refine (bwrite k (by omega) _).mono ?_
              rintro e W3 ⟨rfl, hb3⟩
              have HE3 := Lib.hid (gr_call HE2.out hb3)
              clear hb3
              have z1 := wrS_size k (by omega)
              have z2 : (wrS k).size ≤ 8388608 := by omega
              have z3 : t.size ≤ 8388608 := by omega
              go_wp2_with (fail)
              obtain ⟨hat, hblk, hB⟩ := HD.out
              have hfin := hat.yes hlt HP.out
              rw [← HL.out, ← hmL.out] at hfin
              have hall := gr_call HE.out HE3.out
              refine ⟨⟨m + 1, _, by go_num, rfl, hfin.to ?_, hblk.call hall, gr_call hB hall⟩, by simp [intOf]; omega⟩
              unfold piece; rw [if_pos HQ.out]
            · have q0 : ((m : Int) - (k : Int) == 0) = false := by simp; omega
              have q1 : ((m : Int) - (k : Int) == 1) = true := by simp; omega
              have HQ : Hid (m = k + 1) := Lib.hid hc
              clear hc
              have HE2 := Lib.hid HI.out.2.2
              go_wp2_with (fail)
              refine (bwrite k (by omega) _).mono ?_
              rintro e W3 ⟨rfl, hb3⟩
              have HE3 := Lib.hid (gr_call HE2.out hb3)
              clear hb3
              have z1 := wrS_size k (by omega)
              have z2 : (wrS k).size ≤ 8388608 := by omega
              have z3 : t.size ≤ 8388608 := by omega
              have z4 := wrS_size m (by omega)
              have z5 : (wrS m).size ≤ 8388608 := by omega
              have z6 : (wrS k ++ wrS m).size ≤ 8388608 := by rw [ByteArray.size_append]; omega
              have z7 : (wrS k ++ { data := #[45] } ++ wrS m).size ≤ 8388608 := by rw [ByteArray.size_append, ByteArray.size_append, show ({ data := #[45] } : ByteArray).size = 1 from rfl]; omega
              have z8 : (wrS k ++ { data := #[45] }).size ≤ 8388608 := by rw [ByteArray.size_append, show ({ data := #[45] } : ByteArray).size = 1 from rfl]; omega
              go_wp2_with (fail)
              refine (bwrite m (by omega) _).mono ?_
              rintro e W4 ⟨rfl, hb4⟩
              have HE4 := Lib.hid (gr_call HE3.out hb4)
              clear hb4
              go_wp2_with (fail)
              obtain ⟨hat, hblk, hB⟩ := HD.out
              have hfin := hat.yes hlt HP.out
              rw [← HL.out, ← hmL.out] at hfin
              have hall := gr_call HE.out HE4.out
              refine ⟨⟨m + 1, _, by go_num, rfl, hfin.to ?_, hblk.call hall, gr_call hB hall⟩, by simp [intOf]; omega⟩
              unfold piece; rw [if_neg (by have := HQ.out; omega), if_pos HQ.out]
            · have q0 : ((m : Int) - (k : Int) == 0) = false := by simp; omega
              have q1 : ((m : Int) - (k : Int) == 1) = false := by simp; omega
              have HQ : Hid (k + 2 ≤ m) := Lib.hid hc
              clear hc
              have HE2 := Lib.hid HI.out.2.2
              go_wp2_with (fail)
              refine (bwrite k (by omega) _).mono ?_
              rintro e W3 ⟨rfl, hb3⟩
              have HE3 := Lib.hid (gr_call HE2.out hb3)
              clear hb3
              have z1 := wrS_size k (by omega)
              have z2 : (wrS k).size ≤ 8388608 := by omega
              have z3 : t.size ≤ 8388608 := by omega
              have z4 := wrS_size m (by omega)
              have z5 : (wrS m).size ≤ 8388608 := by omega
              have z6 : (wrS k ++ wrS m).size ≤ 8388608 := by rw [ByteArray.size_append]; omega
              have z7 : (wrS k ++ { data := #[45] } ++ wrS m).size ≤ 8388608 := by rw [ByteArray.size_append, ByteArray.size_append, show ({ data := #[45] } : ByteArray).size = 1 from rfl]; omega
              have z8 : (wrS k ++ { data := #[45] }).size ≤ 8388608 := by rw [ByteArray.size_append, show ({ data := #[45] } : ByteArray).size = 1 from rfl]; omega
              go_wp2_with (fail)
              refine (bwrite m (by omega) _).mono ?_
              rintro e W4 ⟨rfl, hb4⟩
              have HE4 := Lib.hid (gr_call HE3.out hb4)
              clear hb4
              go_wp2_with (fail)
              obtain ⟨hat, hblk, hB⟩ := HD.out
              have hfin := hat.yes hlt HP.out
              rw [← HL.out, ← hmL.out] at hfin
              have hall := gr_call HE.out HE4.out
              refine ⟨⟨m + 1, _, by go_num, rfl, hfin.to ?_, hblk.call hall, gr_call hB hall⟩, by simp [intOf]; omega⟩
              unfold piece; rw [if_neg (by have := HQ.out; omega), if_neg (by have := HQ.out; omega)]
    · obtain rfl : k = 256 := by omega
      have HD := Lib.hid (And.intro hat hB)
      clear hat hblk hB
      go_wp2_with (fail)
      go_ret
      exact ⟨ret_str HD.out.1.done, HD.out.2⟩

set_option maxRecDepth 100000 in
set_option maxHeartbeats 8000000 in
theorem rtext (p : Nat → Bool) (w : World) :
    Calls Tryd.prog 22 #[Value.agg #[.int .u64 (setW p 0 : Int), .int .u64 (setW p 1 : Int), .int .u64 (setW p 2 : Int), .int .u64 (setW p 3 : Int)]] w fun e w' => e = .returned (.string (txtP p 0)) ∧ Below w.heap.size w w' := by
  go_enter Tryd.func22, Tryd.ntmps22
  go_wp2_with (fail)
  go_loopw [3, 4] (fun o i wr => ∃ (k : Nat) (t : ByteArray), i = .int .i64 (k : Int) ∧ o = .string t ∧ TextAt p t k ∧ Blk wr w.heap.size 28 #[Value.int .u64 (setW p 0 : Int), .int .u64 (setW p 1 : Int), .int .u64 (setW p 2 : Int), .int .u64 (setW p 3 : Int)] ∧ Below w.heap.size w wr) (fun _ i _ => 256 - (intOf i).toNat)
  case atStart => exact ⟨0, _, rfl, rfl, TextAt.start p, Blk.new _ _ _, gr_alloc (Below.refl _ _) _⟩
  case round =>
    obtain ⟨k, t, rfl, rfl, hat, hblk, hB⟩ := hrel
    have hk := hat.1
    have hts := hat.2.1
    by_cases hlt : k < 256
    · have hw1 : IntKind.u8.wrap (k : Int) = (k : Int) := by rw [IntKind.wrap_u8]; omega
      have a0 := hblk.cell' (i := 0) rfl
      have a1 := hblk.cell' (i := 1) rfl
      have a2 := hblk.cell' (i := 2) rfl
      have a3 := hblk.cell' (i := 3) rfl
      have HD := Lib.hid (And.intro hat (And.intro hblk hB))
      clear hat hblk hB
      cases h1 : p k
      · have HP := Lib.hid h1
        clear h1
        go_wp2_with (fail)
        refine (rhasp p k (by omega) _).mono ?_
        rintro e W1 ⟨rfl, hb1⟩
        rw [HP.out]
        have HE := Lib.hid hb1
        clear hb1
        go_wp2_with (fail)
        obtain ⟨hat, hblk, hB⟩ := HD.out
        exact ⟨⟨k + 1, t, by go_num, rfl, hat.no hlt HP.out, hblk.call HE.out, gr_call hB HE.out⟩, by simp [intOf]; omega⟩
      · have HP := Lib.hid h1
        clear h1
        go_wp2_with (fail)
        refine (rhasp p k (by omega) _).mono ?_
        rintro e W1 ⟨rfl, hb1⟩
        rw [HP.out]
        have HE := Lib.hid hb1
        clear hb1
        obtain ⟨L, hL⟩ : ∃ L, L = runL p k := ⟨_, rfl⟩
        have HL := Lib.hid hL
        have hLk : k ≤ L ∧ L ≤ 255 := by rw [hL]; exact runL_ge p k (by omega)
        obtain ⟨hLk1, hLk2⟩ := hLk
        clear hL a0 a1 a2 a3
        go_wp2_with (fail)
        obtain ⟨wo, rfl⟩ : ∃ wo : World, wo = W1 := ⟨_, rfl⟩
        go_loopw [5] (fun i wx => ∃ m : Nat, k ≤ m ∧ m ≤ L ∧ i = .int .i64 (m : Int) ∧ runL p m = L ∧ Blk wx w.heap.size 28 #[Value.int .u64 (setW p 0 : Int), .int .u64 (setW p 1 : Int), .int .u64 (setW p 2 : Int), .int .u64 (setW p 3 : Int)] ∧ Below wo.heap.size wo wx) (fun i _ => 256 - (intOf i).toNat)
        case atStart => exact ⟨k, by omega, by omega, rfl, HL.out.symm, HD.out.2.1.call HE.out, Below.refl _ _⟩
        case round =>
          obtain ⟨m, hm1, hm2, rfl, hrun, hblk, hB⟩ := hrel
          have c0 := hblk.cell' (i := 0) rfl
          have c1 := hblk.cell' (i := 1) rfl
          have c2 := hblk.cell' (i := 2) rfl
          have c3 := hblk.cell' (i := 3) rfl
          have HI := Lib.hid (And.intro hrun (And.intro hblk hB))
          clear hrun hblk hB
          have hwm : IntKind.u8.wrap (m : Int) = (m : Int) := by rw [IntKind.wrap_u8]; omega
          by_cases hgo : m < 255
          · have hw2 : IntKind.u8.wrap ((m : Int) + 1) = ((m + 1 : Nat) : Int) := by rw [IntKind.wrap_u8]; omega
            cases h2 : p (m + 1)
            · have HP2 := Lib.hid h2
              clear h2
              have hmL : Hid (m = L) := Lib.hid (by rw [← HI.out.1]; exact (runL_stop p m (fun _ => HP2.out)).symm)
              have h3 : m = k ∨ m = k + 1 ∨ k + 2 ≤ m := by omega
              rcases h3 with hc | hc | hc
              · have q0 : ((m : Int) == (k : Int)) = true := by simp; omega
                have HQ : Hid (m = k) := Lib.hid hc
                clear hc
                go_wp2_with (fail)
                refine (rhasp p (m + 1) (by omega) _).mono ?_
                rintro e W2 ⟨rfl, hb2⟩
                rw [HP2.out]
                have HE2 := Lib.hid (gr_call HI.out.2.2 hb2)
                clear hb2
                go_wp2_with (fail)
                refine (rone k (by omega) _).mono ?_
                rintro e W3 ⟨rfl, hb3⟩
                have HE3 := Lib.hid (gr_call HE2.out hb3)
                clear hb3
                have z1 := wrS_size k (by omega)
                have z2 : (wrS k).size ≤ 8388608 := by omega
                have z3 : t.size ≤ 8388608 := by omega
                go_wp2_with (fail)
                obtain ⟨hat, hblk, hB⟩ := HD.out
                have hfin := hat.yes hlt HP.out
                rw [← HL.out, ← hmL.out] at hfin
                have hall := gr_call HE.out HE3.out
                refine ⟨⟨m + 1, _, by go_num, rfl, hfin.to ?_, hblk.call hall, gr_call hB hall⟩, by simp [intOf]; omega⟩
                unfold piece; rw [if_pos HQ.out]
              · have q0 : ((m : Int) == (k : Int)) = false := by simp; omega
                have q1 : ((m : Int) == (k : Int) + 1) = true := by simp; omega
                have HQ : Hid (m = k + 1) := Lib.hid hc
                clear hc
                go_wp2_with (fail)
                refine (rhasp p (m + 1) (by omega) _).mono ?_
                rintro e W2 ⟨rfl, hb2⟩
                rw [HP2.out]
                have HE2 := Lib.hid (gr_call HI.out.2.2 hb2)
                clear hb2
                go_wp2_with (fail)
                refine (rone k (by omega) _).mono ?_
                rintro e W3 ⟨rfl, hb3⟩
                have HE3 := Lib.hid (gr_call HE2.out hb3)
                clear hb3
                have z1 := wrS_size k (by omega)
                have z2 : (wrS k).size ≤ 8388608 := by omega
                have z3 : t.size ≤ 8388608 := by omega
                have z4 := wrS_size m (by omega)
                have z5 : (wrS m).size ≤ 8388608 := by omega
                have z6 : (t ++ wrS k).size ≤ 8388608 := by rw [ByteArray.size_append]; omega
                have z7 : (t ++ wrS k ++ { data := #[45] }).size ≤ 8388608 := by rw [ByteArray.size_append, ByteArray.size_append, show ({ data := #[45] } : ByteArray).size = 1 from rfl]; omega
                go_wp2_with (fail)
                refine (rone m (by omega) _).mono ?_
                rintro e W4 ⟨rfl, hb4⟩
                have HE4 := Lib.hid (gr_call HE3.out hb4)
                clear hb4
                go_wp2_with (fail)
                obtain ⟨hat, hblk, hB⟩ := HD.out
                have hfin := hat.yes hlt HP.out
                rw [← HL.out, ← hmL.out] at hfin
                have hall := gr_call HE.out HE4.out
                refine ⟨⟨m + 1, _, by go_num, rfl, hfin.to ?_, hblk.call hall, gr_call hB hall⟩, by simp [intOf]; omega⟩
                unfold piece; rw [if_neg (by have := HQ.out; omega), if_pos HQ.out]; exact ByteArray.append_assoc
              · have q0 : ((m : Int) == (k : Int)) = false := by simp; omega
                have q1 : ((m : Int) == (k : Int) + 1) = false := by simp; omega
                have HQ : Hid (k + 2 ≤ m) := Lib.hid hc
                clear hc
                go_wp2_with (fail)
                refine (rhasp p (m + 1) (by omega) _).mono ?_
                rintro e W2 ⟨rfl, hb2⟩
                rw [HP2.out]
                have HE2 := Lib.hid (gr_call HI.out.2.2 hb2)
                clear hb2
                go_wp2_with (fail)
                refine (rone k (by omega) _).mono ?_
                rintro e W3 ⟨rfl, hb3⟩
                have HE3 := Lib.hid (gr_call HE2.out hb3)
                clear hb3
                have z1 := wrS_size k (by omega)
                have z2 : (wrS k).size ≤ 8388608 := by omega
                have z3 : t.size ≤ 8388608 := by omega
                have z4 := wrS_size m (by omega)
                have z5 : (wrS m).size ≤ 8388608 := by omega
                have z6 : (t ++ wrS k).size ≤ 8388608 := by rw [ByteArray.size_append]; omega
                have z7 : (t ++ wrS k ++ { data := #[45] }).size ≤ 8388608 := by rw [ByteArray.size_append, ByteArray.size_append, show ({ data := #[45] } : ByteArray).size = 1 from rfl]; omega
                go_wp2_with (fail)
                refine (rone m (by omega) _).mono ?_
                rintro e W4 ⟨rfl, hb4⟩
                have HE4 := Lib.hid (gr_call HE3.out hb4)
                clear hb4
                go_wp2_with (fail)
                obtain ⟨hat, hblk, hB⟩ := HD.out
                have hfin := hat.yes hlt HP.out
                rw [← HL.out, ← hmL.out] at hfin
                have hall := gr_call HE.out HE4.out
                refine ⟨⟨m + 1, _, by go_num, rfl, hfin.to ?_, hblk.call hall, gr_call hB hall⟩, by simp [intOf]; omega⟩
                unfold piece; rw [if_neg (by have := HQ.out; omega), if_neg (by have := HQ.out; omega)]; rw [ByteArray.append_assoc, ByteArray.append_assoc, ByteArray.append_assoc]
            · have HP2 := Lib.hid h2
              clear h2
              go_wp2_with (fail)
              refine (rhasp p (m + 1) (by omega) _).mono ?_
              rintro e W2 ⟨rfl, hb2⟩
              rw [HP2.out]
              have HE2 := Lib.hid (gr_call HI.out.2.2 hb2)
              have HX2 := Lib.hid (HI.out.2.1.call hb2)
              clear hb2
              go_wp2_with (fail)
              have hr2 := runL_go p m hgo HP2.out
              have hr3 := runL_ge p (m + 1) (by omega)
              rw [← hr2, HI.out.1] at hr3
              exact ⟨⟨m + 1, by omega, hr3.1, by go_num, by rw [← hr2]; exact HI.out.1, HX2.out, HE2.out⟩, by simp [intOf]; omega⟩
          · have hmL : Hid (m = L) := Lib.hid (by omega)
            have h3 : m = k ∨ m = k + 1 ∨ k + 2 ≤ m := by omega
            rcases h3 with hc | hc | hc
            · have q0 : ((m : Int) == (k : Int)) = true := by simp; omega
              have HQ : Hid (m = k) := Lib.hid hc
              clear hc
              have HE2 := Lib.hid HI.out.2.2
              go_wp2_with (fail)
              refine (rone k (by omega) _).mono ?_
              rintro e W3 ⟨rfl, hb3⟩
              have HE3 := Lib.hid (gr_call HE2.out hb3)
              clear hb3
              have z1 := wrS_size k (by omega)
              have z2 : (wrS k).size ≤ 8388608 := by omega
              have z3 : t.size ≤ 8388608 := by omega
              go_wp2_with (fail)
              obtain ⟨hat, hblk, hB⟩ := HD.out
              have hfin := hat.yes hlt HP.out
              rw [← HL.out, ← hmL.out] at hfin
              have hall := gr_call HE.out HE3.out
              refine ⟨⟨m + 1, _, by go_num, rfl, hfin.to ?_, hblk.call hall, gr_call hB hall⟩, by simp [intOf]; omega⟩
              unfold piece; rw [if_pos HQ.out]
            · have q0 : ((m : Int) == (k : Int)) = false := by simp; omega
              have q1 : ((m : Int) == (k : Int) + 1) = true := by simp; omega
              have HQ : Hid (m = k + 1) := Lib.hid hc
              clear hc
              have HE2 := Lib.hid HI.out.2.2
              go_wp2_with (fail)
              refine (rone k (by omega) _).mono ?_
              rintro e W3 ⟨rfl, hb3⟩
              have HE3 := Lib.hid (gr_call HE2.out hb3)
              clear hb3
              have z1 := wrS_size k (by omega)
              have z2 : (wrS k).size ≤ 8388608 := by omega
              have z3 : t.size ≤ 8388608 := by omega
              have z4 := wrS_size m (by omega)
              have z5 : (wrS m).size ≤ 8388608 := by omega
              have z6 : (t ++ wrS k).size ≤ 8388608 := by rw [ByteArray.size_append]; omega
              have z7 : (t ++ wrS k ++ { data := #[45] }).size ≤ 8388608 := by rw [ByteArray.size_append, ByteArray.size_append, show ({ data := #[45] } : ByteArray).size = 1 from rfl]; omega
              go_wp2_with (fail)
              refine (rone m (by omega) _).mono ?_
              rintro e W4 ⟨rfl, hb4⟩
              have HE4 := Lib.hid (gr_call HE3.out hb4)
              clear hb4
              go_wp2_with (fail)
              obtain ⟨hat, hblk, hB⟩ := HD.out
              have hfin := hat.yes hlt HP.out
              rw [← HL.out, ← hmL.out] at hfin
              have hall := gr_call HE.out HE4.out
              refine ⟨⟨m + 1, _, by go_num, rfl, hfin.to ?_, hblk.call hall, gr_call hB hall⟩, by simp [intOf]; omega⟩
              unfold piece; rw [if_neg (by have := HQ.out; omega), if_pos HQ.out]; exact ByteArray.append_assoc
            · have q0 : ((m : Int) == (k : Int)) = false := by simp; omega
              have q1 : ((m : Int) == (k : Int) + 1) = false := by simp; omega
              have HQ : Hid (k + 2 ≤ m) := Lib.hid hc
              clear hc
              have HE2 := Lib.hid HI.out.2.2
              go_wp2_with (fail)
              refine (rone k (by omega) _).mono ?_
              rintro e W3 ⟨rfl, hb3⟩
              have HE3 := Lib.hid (gr_call HE2.out hb3)
              clear hb3
              have z1 := wrS_size k (by omega)
              have z2 : (wrS k).size ≤ 8388608 := by omega
              have z3 : t.size ≤ 8388608 := by omega
              have z4 := wrS_size m (by omega)
              have z5 : (wrS m).size ≤ 8388608 := by omega
              have z6 : (t ++ wrS k).size ≤ 8388608 := by rw [ByteArray.size_append]; omega
              have z7 : (t ++ wrS k ++ { data := #[45] }).size ≤ 8388608 := by rw [ByteArray.size_append, ByteArray.size_append, show ({ data := #[45] } : ByteArray).size = 1 from rfl]; omega
              go_wp2_with (fail)
              refine (rone m (by omega) _).mono ?_
              rintro e W4 ⟨rfl, hb4⟩
              have HE4 := Lib.hid (gr_call HE3.out hb4)
              clear hb4
              go_wp2_with (fail)
              obtain ⟨hat, hblk, hB⟩ := HD.out
              have hfin := hat.yes hlt HP.out
              rw [← HL.out, ← hmL.out] at hfin
              have hall := gr_call HE.out HE4.out
              refine ⟨⟨m + 1, _, by go_num, rfl, hfin.to ?_, hblk.call hall, gr_call hB hall⟩, by simp [intOf]; omega⟩
              unfold piece; rw [if_neg (by have := HQ.out; omega), if_neg (by have := HQ.out; omega)]; rw [ByteArray.append_assoc, ByteArray.append_assoc, ByteArray.append_assoc]
    · obtain rfl : k = 256 := by omega
      have HD := Lib.hid (And.intro hat hB)
      clear hat hblk hB
      go_wp2_with (fail)
      go_ret
      exact ⟨ret_str HD.out.1.done, HD.out.2⟩
end Go.Proofs.YtcfdadgijnmemaaDoor
