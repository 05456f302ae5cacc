/-
  How byteset and its reference read a hexadecimal digit and a byte; no condition.
-/
import Derived.Test.YtcfdadgijnmemaaDoorSetQ
namespace Go.Proofs.YtcfdadgijnmemaaDoor
open Go.RowKit
set_option linter.unusedVariables false
set_option linter.unusedSimpArgs false

/-- The value of a hexadecimal digit; -1 if it is none. -/
def dgt (c : Nat) : Int := if 48 ≤ c ∧ c ≤ 57 then (c : Int) - 48 else if 97 ≤ c ∧ c ≤ 102 then (c : Int) - 87 else if 65 ≤ c ∧ c ≤ 70 then (c : Int) - 55 else -1
def dj (k : Nat) : Nat := if k < 10 then 48 + k else 87 + k
theorem dj_at : ∀ k : Nat, k < 16 → ∀ h' : k < ({ data := #[48, 49, 50, 51, 52, 53, 54, 55, 56, 57, 97, 98, 99, 100, 101, 102] } : ByteArray).size, (({ data := #[48, 49, 50, 51, 52, 53, 54, 55, 56, 57, 97, 98, 99, 100, 101, 102] } : ByteArray)[k]'h').toNat = dj k := by decide +kernel
theorem dgt_bound (c : Nat) (hc : c < 256) : -1 ≤ dgt c ∧ dgt c ≤ 15 := by
  unfold dgt
  split
  · omega
  · split
    · omega
    · split <;> omega
theorem dgt_is (c k : Nat) (hk : k < 16) (h : dgt c = k) : c = dj k ∨ (9 < k ∧ 97 ≤ dj k ∧ dj k ≤ 102 ∧ c = dj k - 32 ∧ c ≠ dj k) := by
  unfold dgt at h
  unfold dj
  split at h
  · left; split <;> omega
  · split at h
    · left; split <;> omega
    · split at h
      · right; split <;> omega
      · omega
theorem dgt_not (c k : Nat) (hk : k < 16) (h : dgt c ≠ k) : c ≠ dj k ∧ (9 < k → 97 ≤ dj k ∧ dj k ≤ 102 ∧ c ≠ dj k - 32) := by
  unfold dgt at h
  unfold dj
  split at h
  · split <;> omega
  · split at h
    · split <;> omega
    · split at h <;> split <;> omega

def DgtPost (c : Nat) (w : World) (e : Ending) (w' : World) : Prop := e = .returned (.tuple #[.int .i64 (if dgt c < 0 then 0 else dgt c), .bool (decide (0 ≤ dgt c))]) ∧ w = w'

set_option maxRecDepth 100000 in
set_option maxHeartbeats 2000000 in
theorem bdigit (c : Nat) (hc : c < 256) (w : World) : Calls Tryd.prog 50 #[.int .u8 (c : Int)] w (DgtPost c w) := by
  have hc1 : (c : Int) < 256 := by omega
  have hc0 : 0 ≤ (c : Int) := by omega
  go_enter Tryd.func50, Tryd.ntmps50
  go_wp2_with (fail)
  go_loop [5] (fun i => ∃ k : Nat, k ≤ 16 ∧ i = .int .i64 (k : Int) ∧ (∀ j : Nat, j < k → dgt c ≠ j)) (fun i => 16 - (intOf i).toNat)
  case atStart => exact ⟨0, by omega, rfl, fun j hj => absurd hj (by omega)⟩
  case round =>
    obtain ⟨k, hk, rfl, hne⟩ := hrel
    have HH := Lib.hid hne
    clear hne
    by_cases hlt : k < 16
    · obtain ⟨d, hd⟩ : ∃ d, d = dj k := ⟨_, rfl⟩
      have e1 := fun h' => dj_at k hlt h'
      simp only [← hd] at e1
      by_cases hm : dgt c = k
      · have HM := Lib.hid hm
        have h3 := dgt_is c k hlt hm
        rw [← hd] at h3
        clear hm hd
        have fin : Hid (Ending.returned (.tuple #[.int .i64 (k : Int), .bool true]) = Ending.returned (.tuple #[.int .i64 (if dgt c < 0 then 0 else dgt c), .bool (decide (0 ≤ dgt c))])) := Lib.hid (by rw [HM.out, if_neg (by omega), decide_eq_true (by omega)])
        rcases h3 with h3 | ⟨h4, h5, h6, h7, h8⟩
        · have q1 : ((c : Int) == (d : Int)) = true := by simp; omega
          clear h3
          go_wp2_with (fail)
          go_ret2
          exact ⟨fin.out, rfl⟩
        · have q1 : ((c : Int) == (d : Int)) = false := by simp; omega
          have q2 : IntKind.u8.wrap ((d : Int) - 32) = (d : Int) - 32 := by rw [IntKind.wrap_u8]; omega
          have q3 : ((c : Int) == (d : Int) - 32) = true := by simp; omega
          clear h7 h8
          go_wp2_with (fail)
          go_ret2
          exact ⟨fin.out, rfl⟩
      · have HM := Lib.hid hm
        have h3 := dgt_not c k hlt hm
        rw [← hd] at h3
        clear hm hd
        obtain ⟨h3, h4⟩ := h3
        have q1 : ((c : Int) == (d : Int)) = false := by simp; omega
        have nxt : Hid (∀ j : Nat, j < k + 1 → dgt c ≠ j) := Lib.hid (fun j hj => by
          by_cases e : j = k
          · rw [e]; exact HM.out
          · exact HH.out j (by omega))
        by_cases h9 : 9 < k
        · obtain ⟨h5, h6, h7⟩ := h4 h9
          have q2 : IntKind.u8.wrap ((d : Int) - 32) = (d : Int) - 32 := by rw [IntKind.wrap_u8]; omega
          have q3 : ((c : Int) == (d : Int) - 32) = false := by simp; omega
          clear h4 h3 h7
          go_wp2_with (fail)
          exact ⟨⟨k + 1, by omega, by go_num, nxt.out⟩, by simp [intOf]; omega⟩
        · clear h4 h3
          go_wp2_with (fail)
          exact ⟨⟨k + 1, by omega, by go_num, nxt.out⟩, by simp [intOf]; omega⟩
    · obtain rfl : k = 16 := by omega
      have hb := dgt_bound c hc
      have hn : dgt c < 0 := by
        apply Int.not_le.1
        intro h0
        exact HH.out (dgt c).toNat (by omega) (by omega)
      have fin : Hid (Ending.returned (.tuple #[.int .i64 0, .bool false]) = Ending.returned (.tuple #[.int .i64 (if dgt c < 0 then 0 else dgt c), .bool (decide (0 ≤ dgt c))])) := Lib.hid (by rw [if_pos hn, decide_eq_false (by omega)])
      clear hb hn
      go_wp2_with (fail)
      go_ret2
      exact ⟨fin.out, rfl⟩

set_option maxRecDepth 100000 in
set_option maxHeartbeats 2000000 in
theorem rdigit (c : Nat) (hc : c < 256) (w : World) : Calls Tryd.prog 52 #[.int .u8 (c : Int)] w fun e w' => e = .returned (.int .i64 (dgt c)) ∧ w = w' := by
  have hc1 : (c : Int) < 256 := by omega
  have hc0 : 0 ≤ (c : Int) := by omega
  have h3 : (48 ≤ c ∧ c ≤ 57) ∨ (97 ≤ c ∧ c ≤ 102) ∨ (65 ≤ c ∧ c ≤ 70) ∨ c < 48 ∨ (57 < c ∧ c < 65) ∨ (70 < c ∧ c < 97) ∨ 102 < c := by omega
  have fin : Hid (∀ v : Int, v = dgt c → (Ending.returned (.int .i64 v) = Ending.returned (.int .i64 (dgt c)))) := Lib.hid (fun v h => by rw [h])
  rcases h3 with ⟨h1, h2⟩ | ⟨h1, h2⟩ | ⟨h1, h2⟩ | h1 | ⟨h1, h2⟩ | ⟨h1, h2⟩ | h1
  all_goals
    go_enter Tryd.func52, Tryd.ntmps52
    go_wp2_with (fail)
    go_ret
    refine ⟨fin.out _ ?_, rfl⟩
    unfold dgt
    first
      | (rw [if_pos (by omega)] <;> omega)
      | (rw [if_neg (by omega), if_pos (by omega)] <;> omega)
      | (rw [if_neg (by omega), if_neg (by omega), if_pos (by omega)] <;> omega)
      | (rw [if_neg (by omega), if_neg (by omega), if_neg (by omega)])

/-- How a byte is read as it is written: it, and how many bytes that takes; 0 if there is none. -/
def rdB : List UInt8 → Nat × Nat
  | [] => (0, 0)
  | a :: r => if plainP a.toNat then (a.toNat, 1) else
    match a :: r with
    | 92 :: 120 :: x :: y :: _ => if 0 ≤ dgt x.toNat ∧ 0 ≤ dgt y.toNat then (16 * (dgt x.toNat).toNat + (dgt y.toNat).toNat, 4) else (0, 0)
    | _ => (0, 0)
theorem rdB_bound (l : List UInt8) : (rdB l).1 < 256 ∧ (rdB l).2 ≤ l.length ∧ ((rdB l).2 = 0 ∨ (rdB l).2 = 1 ∨ (rdB l).2 = 4) := by
  unfold rdB
  split
  · simp
  · rename_i a r
    have := a.toNat_lt
    split
    · exact ⟨by simpa using this, by simp, by simp⟩
    · split
      · rename_i x y t heq
        split
        · have hx := dgt_bound x.toNat x.toNat_lt
          have hy := dgt_bound y.toNat y.toNat_lt
          refine ⟨by show _ < 256; simp; omega, ?_, by simp⟩
          rw [heq]; simp
        · simp
      · simp
def RdPost (l : List UInt8) (w : World) (e : Ending) (w' : World) : Prop := e = .returned (.tuple #[.int .u8 ((rdB l).1 : Int), .int .i64 ((rdB l).2 : Int)]) ∧ Below w.heap.size w w'

set_option maxRecDepth 100000 in
set_option maxHeartbeats 2000000 in
theorem bread (s : ByteArray) (hs : s.size ≤ 2000) (w : World) : Calls Tryd.prog 42 #[.string s] w (RdPost s.data.toList w) := by
  by_cases h0 : s.size = 0
  · have hs0 : s = ⟨#[]⟩ := by apply ByteArray.ext; apply Array.eq_empty_of_size_eq_zero; exact h0
    subst hs0
    go_enter Tryd.func42, Tryd.ntmps42
    go_wp2_with (fail)
    go_ret2
    exact ⟨rfl, Below.refl _ _⟩
  · have h1 : 0 < s.size := by omega
    have he : s.toList.isEmpty = false := by rw [Lib.toList_data]; cases h : s.data.toList with | nil => (have := size_data s; rw [h] at this; simp at this; omega) | cons => rfl
    have he2 : (s.toList == []) = false := by rw [Lib.toList_data]; cases h : s.data.toList with | nil => (have := size_data s; rw [h] at this; simp at this; omega) | cons => rfl
    obtain ⟨a, ha⟩ : ∃ a, a = s[0] := ⟨_, rfl⟩
    have hl : s.data.toList = a :: s.data.toList.drop 1 := by
      have := drop_at s 0 h1
      rw [ha]; simpa using this
    have haS : s[0] = a := ha.symm
    have hab := a.toNat_lt
    cases hp : plainP a.toNat
    · have HP := Lib.hid hp
      by_cases h4 : s.size < 4
      · have fin : Hid (rdB s.data.toList = (0, 0)) := Lib.hid (by
          have hz := size_data s
          rw [hl] at hz ⊢
          show (if plainP a.toNat then _ else _) = _
          rw [hp, if_neg (by decide)]
          split
          · rename_i x y t heq
            rw [heq] at hz
            simp at hz
            omega
          · rfl)
        have HL := Lib.hid hl
        clear hp hl ha h0
        go_enter Tryd.func42, Tryd.ntmps42
        go_wp2_with (fail)
        refine (bplain a.toNat (by omega) _).mono ?_
        rintro e W1 ⟨rfl, hb1⟩
        rw [HP.out]
        have HB := Lib.hid hb1
        clear hb1
        go_wp2_with (fail)
        go_ret2
        exact ⟨by rw [fin.out]; rfl, HB.out⟩
      · have h4' : 4 ≤ s.size := by omega
        obtain ⟨b1, hb1⟩ : ∃ a, a = s[1] := ⟨_, rfl⟩
        obtain ⟨x, hx⟩ : ∃ a, a = s[2] := ⟨_, rfl⟩
        obtain ⟨y, hy⟩ : ∃ a, a = s[3] := ⟨_, rfl⟩
        have hl4 : s.data.toList = a :: b1 :: x :: y :: s.data.toList.drop 4 := by
          rw [hl]
          have e1 := drop_at s 1 (by omega)
          have e2 := drop_at s 2 (by omega)
          have e3 := drop_at s 3 (by omega)
          rw [e1, e2, e3, hb1, hx, hy]; simp
        have hb1S : s[1] = b1 := hb1.symm
        have hxS : s[2] = x := hx.symm
        have hyS : s[3] = y := hy.symm
        have hxb := x.toNat_lt
        have hyb := y.toNat_lt
        have e2 : (s.extract 0 2).toList = [a, b1] := by rw [Lib.toList_data, ext_take, hl4]; rfl
        have HL := Lib.hid hl4
        by_cases h92 : a = 92 ∧ b1 = 120
        · have q2 : ((s.extract 0 2).toList == [92, 120]) = true := by rw [e2, h92.1, h92.2]; rfl
          have H92 := Lib.hid h92
          have hdx := dgt_bound x.toNat hxb
          have hdy := dgt_bound y.toNat hyb
          clear hp hl ha h0 hl4 e2 hb1 hx hy h92
          by_cases hx0 : 0 ≤ dgt x.toNat
          · by_cases hy0 : 0 ≤ dgt y.toNat
            · have fin : Hid (rdB s.data.toList = (16 * (dgt x.toNat).toNat + (dgt y.toNat).toNat, 4)) := Lib.hid (by
                rw [HL.out]
                show (if plainP a.toNat then _ else _) = _
                rw [HP.out, if_neg (by decide), H92.out.1, H92.out.2]
                show (if 0 ≤ dgt x.toNat ∧ 0 ≤ dgt y.toNat then _ else _) = _
                rw [if_pos ⟨hx0, hy0⟩])
              obtain ⟨dx, hdx'⟩ : ∃ d : Nat, dgt x.toNat = d := ⟨(dgt x.toNat).toNat, by omega⟩
              obtain ⟨dy, hdy'⟩ : ∃ d : Nat, dgt y.toNat = d := ⟨(dgt y.toNat).toNat, by omega⟩
              have hdx1 : dx ≤ 15 := by omega
              have hdy1 : dy ≤ 15 := by omega
              have HX := Lib.hid hdx'
              have HY := Lib.hid hdy'
              clear hdx hdy hx0 hy0 hdx' hdy'
              go_enter Tryd.func42, Tryd.ntmps42
              go_wp2_with (fail)
              refine (bplain a.toNat (by omega) _).mono ?_
              rintro e W1 ⟨rfl, hb1⟩
              rw [HP.out]
              have HB := Lib.hid hb1
              clear hb1
              go_wp2_with (fail)
              refine (bdigit x.toNat (by omega) _).mono ?_
              rintro e W2 ⟨rfl, rfl⟩
              rw [HX.out, if_neg (by omega), decide_eq_true (by omega)]
              go_wp2_with (fail)
              refine (bdigit y.toNat (by omega) _).mono ?_
              rintro e W2 ⟨rfl, rfl⟩
              rw [HY.out, if_neg (by omega), decide_eq_true (by omega)]
              have hw1 : IntKind.u8.wrap (16 * (dx : Int) + (dy : Int)) = 16 * (dx : Int) + (dy : Int) := by rw [IntKind.wrap_u8]; omega
              go_wp2_with (fail)
              go_ret2
              exact ⟨by rw [fin.out, HX.out, HY.out]; simp, HB.out⟩
            · have fin : Hid (rdB s.data.toList = (0, 0)) := Lib.hid (by
                rw [HL.out]
                show (if plainP a.toNat then _ else _) = _
                rw [HP.out, if_neg (by decide), H92.out.1, H92.out.2]
                show (if 0 ≤ dgt x.toNat ∧ 0 ≤ dgt y.toNat then _ else _) = _
                rw [if_neg (by omega)])
              have HX := Lib.hid hx0
              have HY := Lib.hid hy0
              clear hdx hdy hx0 hy0
              go_enter Tryd.func42, Tryd.ntmps42
              go_wp2_with (fail)
              refine (bplain a.toNat (by omega) _).mono ?_
              rintro e W1 ⟨rfl, hb1⟩
              rw [HP.out]
              have HB := Lib.hid hb1
              clear hb1
              go_wp2_with (fail)
              refine (bdigit x.toNat (by omega) _).mono ?_
              rintro e W2 ⟨rfl, rfl⟩
              rw [decide_eq_true HX.out, if_neg (Int.not_lt.2 HX.out)]
              go_wp2_with (fail)
              refine (bdigit y.toNat (by omega) _).mono ?_
              rintro e W2 ⟨rfl, rfl⟩
              rw [decide_eq_false (Int.not_le.2 HY.out), if_pos HY.out]
              go_wp2_with (fail)
              go_ret2
              exact ⟨by rw [fin.out]; rfl, HB.out⟩
          · have fin : Hid (rdB s.data.toList = (0, 0)) := Lib.hid (by
              rw [HL.out]
              show (if plainP a.toNat then _ else _) = _
              rw [HP.out, if_neg (by decide), H92.out.1, H92.out.2]
              show (if 0 ≤ dgt x.toNat ∧ 0 ≤ dgt y.toNat then _ else _) = _
              rw [if_neg (by omega)])
            have HX := Lib.hid hx0
            clear hdx hdy hx0
            go_enter Tryd.func42, Tryd.ntmps42
            go_wp2_with (fail)
            refine (bplain a.toNat (by omega) _).mono ?_
            rintro e W1 ⟨rfl, hb1⟩
            rw [HP.out]
            have HB := Lib.hid hb1
            clear hb1
            go_wp2_with (fail)
            refine (bdigit x.toNat (by omega) _).mono ?_
            rintro e W2 ⟨rfl, rfl⟩
            rw [decide_eq_false (Int.not_le.2 HX.out), if_pos HX.out]
            go_wp2_with (fail)
            refine (bdigit y.toNat (by omega) _).mono ?_
            rintro e W2 ⟨rfl, rfl⟩
            generalize (if dgt y.toNat < 0 then (0 : Int) else dgt y.toNat) = vy
            generalize decide (0 ≤ dgt y.toNat) = ty
            go_wp2_with (fail)
            go_ret2
            exact ⟨by rw [fin.out]; rfl, HB.out⟩
        · have q2 : ((s.extract 0 2).toList == [92, 120]) = false := by
            rw [e2, beq_eq_false_iff_ne]
            intro h
            simp at h
            exact h92 h
          have fin : Hid (rdB s.data.toList = (0, 0)) := Lib.hid (by
            rw [hl4]
            show (if plainP a.toNat then _ else _) = _
            rw [hp, if_neg (by decide)]
            split
            · rename_i x' y' t heq
              simp at heq
              exact absurd ⟨heq.1, heq.2.1⟩ h92
            · rfl)
          clear hp hl ha h0 hl4 e2 hb1 hx hy h92
          go_enter Tryd.func42, Tryd.ntmps42
          go_wp2_with (fail)
          refine (bplain a.toNat (by omega) _).mono ?_
          rintro e W1 ⟨rfl, hb1⟩
          rw [HP.out]
          have HB := Lib.hid hb1
          clear hb1
          go_wp2_with (fail)
          go_ret2
          exact ⟨by rw [fin.out]; rfl, HB.out⟩
    · have fin : Hid (rdB s.data.toList = (a.toNat, 1)) := Lib.hid (by rw [hl]; show (if plainP a.toNat then _ else _) = _; rw [hp]; rfl)
      have HP := Lib.hid hp
      have HL := Lib.hid hl
      clear hp hl ha h0
      go_enter Tryd.func42, Tryd.ntmps42
      go_wp2_with (fail)
      refine (bplain a.toNat (by omega) _).mono ?_
      rintro e W1 ⟨rfl, hb1⟩
      rw [HP.out]
      have HB := Lib.hid hb1
      clear hb1
      go_wp2_with (fail)
      go_ret2
      exact ⟨by rw [fin.out]; rfl, HB.out⟩
set_option maxRecDepth 100000 in
set_option maxHeartbeats 2000000 in
theorem rread (s : ByteArray) (hs : s.size ≤ 2000) (w : World) : Calls Tryd.prog 43 #[.string s] w (RdPost s.data.toList w) := by
  by_cases h0 : s.size = 0
  · have hs0 : s = ⟨#[]⟩ := by apply ByteArray.ext; apply Array.eq_empty_of_size_eq_zero; exact h0
    subst hs0
    go_enter Tryd.func43, Tryd.ntmps43
    go_wp2_with (fail)
    go_ret2
    exact ⟨rfl, Below.refl _ _⟩
  · have h1 : 0 < s.size := by omega
    have he : s.toList.isEmpty = false := by rw [Lib.toList_data]; cases h : s.data.toList with | nil => (have := size_data s; rw [h] at this; simp at this; omega) | cons => rfl
    have he2 : (s.toList == []) = false := by rw [Lib.toList_data]; cases h : s.data.toList with | nil => (have := size_data s; rw [h] at this; simp at this; omega) | cons => rfl
    obtain ⟨a, ha⟩ : ∃ a, a = s[0] := ⟨_, rfl⟩
    have hl : s.data.toList = a :: s.data.toList.drop 1 := by
      have := drop_at s 0 h1
      rw [ha]; simpa using this
    have haS : s[0] = a := ha.symm
    have hab := a.toNat_lt
    cases hp : plainP a.toNat
    · have HP := Lib.hid hp
      by_cases h4 : s.size < 4
      · have fin : Hid (rdB s.data.toList = (0, 0)) := Lib.hid (by
          have hz := size_data s
          rw [hl] at hz ⊢
          show (if plainP a.toNat then _ else _) = _
          rw [hp, if_neg (by decide)]
          split
          · rename_i x y t heq
            rw [heq] at hz
            simp at hz
            omega
          · rfl)
        have HL := Lib.hid hl
        clear hp hl ha h0
        go_enter Tryd.func43, Tryd.ntmps43
        go_wp2_with (fail)
        refine (ritself a.toNat (by omega) _).mono ?_
        rintro e W1 ⟨rfl, hb1⟩
        rw [HP.out]
        have HB := Lib.hid hb1
        clear hb1
        go_wp2_with (fail)
        go_ret2
        exact ⟨by rw [fin.out]; rfl, HB.out⟩
      · have h4' : 4 ≤ s.size := by omega
        obtain ⟨b1, hb1⟩ : ∃ a, a = s[1] := ⟨_, rfl⟩
        obtain ⟨x, hx⟩ : ∃ a, a = s[2] := ⟨_, rfl⟩
        obtain ⟨y, hy⟩ : ∃ a, a = s[3] := ⟨_, rfl⟩
        have hl4 : s.data.toList = a :: b1 :: x :: y :: s.data.toList.drop 4 := by
          rw [hl]
          have e1 := drop_at s 1 (by omega)
          have e2 := drop_at s 2 (by omega)
          have e3 := drop_at s 3 (by omega)
          rw [e1, e2, e3, hb1, hx, hy]; simp
        have hb1S : s[1] = b1 := hb1.symm
        have hxS : s[2] = x := hx.symm
        have hyS : s[3] = y := hy.symm
        have hxb := x.toNat_lt
        have hyb := y.toNat_lt
        have HL := Lib.hid hl4
        by_cases h92 : a = 92 ∧ b1 = 120
        · have q1 : ((a.toNat : Int) != 92) = false := by rw [h92.1]; rfl
          have q2 : ((b1.toNat : Int) != 120) = false := by rw [h92.2]; rfl
          have H92 := Lib.hid h92
          have hdx := dgt_bound x.toNat hxb
          have hdy := dgt_bound y.toNat hyb
          clear hp hl ha h0 hl4 hb1 hx hy h92
          by_cases hx0 : 0 ≤ dgt x.toNat
          · have HX := Lib.hid hx0
            obtain ⟨hdx1, hdx2⟩ := hdx
            by_cases hy0 : 0 ≤ dgt y.toNat
            · have HY := Lib.hid hy0
              obtain ⟨hdy1, hdy2⟩ := hdy
              have fin : Hid (rdB s.data.toList = (16 * (dgt x.toNat).toNat + (dgt y.toNat).toNat, 4)) := Lib.hid (by
                rw [HL.out]
                show (if plainP a.toNat then _ else _) = _
                rw [HP.out, if_neg (by decide), H92.out.1, H92.out.2]
                show (if 0 ≤ dgt x.toNat ∧ 0 ≤ dgt y.toNat then _ else _) = _
                rw [if_pos ⟨HX.out, HY.out⟩])
              have hw1 : IntKind.u8.wrap (16 * dgt x.toNat + dgt y.toNat) = 16 * dgt x.toNat + dgt y.toNat := by rw [IntKind.wrap_u8]; omega
              have hw2 : IntKind.i64.wrap (16 * dgt x.toNat) = 16 * dgt x.toNat := IntWalk.i64_in _ (by omega)
              have hw3 : IntKind.i64.wrap (16 * dgt x.toNat + dgt y.toNat) = 16 * dgt x.toNat + dgt y.toNat := IntWalk.i64_in _ (by omega)
              have fin2 : Hid (16 * dgt x.toNat + dgt y.toNat = ((16 * (dgt x.toNat).toNat + (dgt y.toNat).toNat : Nat) : Int)) := Lib.hid (by omega)
              go_enter Tryd.func43, Tryd.ntmps43
              go_wp2_with (fail)
              refine (ritself a.toNat (by omega) _).mono ?_
              rintro e W1 ⟨rfl, hb1⟩
              rw [HP.out]
              have HB := Lib.hid hb1
              clear hb1
              go_wp2_with (fail)
              refine (rdigit x.toNat (by omega) _).mono ?_
              rintro e W2 ⟨rfl, rfl⟩
              go_wp2_with (fail)
              refine (rdigit y.toNat (by omega) _).mono ?_
              rintro e W2 ⟨rfl, rfl⟩
              go_wp2_with (fail)
              go_quiet ((go_at_call 52; exact quiet_left (rdigit _ (by omega) _)))
              go_wp2_with (fail)
              go_ret2
              exact ⟨by rw [fin.out, ← fin2.out]; rfl, below_drewN HB.out _⟩
            · have HY := Lib.hid hy0
              have hy1 : dgt y.toNat < 0 := by omega
              have fin : Hid (rdB s.data.toList = (0, 0)) := Lib.hid (by
                rw [HL.out]
                show (if plainP a.toNat then _ else _) = _
                rw [HP.out, if_neg (by decide), H92.out.1, H92.out.2]
                show (if 0 ≤ dgt x.toNat ∧ 0 ≤ dgt y.toNat then _ else _) = _
                rw [if_neg (fun h => HY.out h.2)])
              clear hy0 hdy
              go_enter Tryd.func43, Tryd.ntmps43
              go_wp2_with (fail)
              refine (ritself a.toNat (by omega) _).mono ?_
              rintro e W1 ⟨rfl, hb1⟩
              rw [HP.out]
              have HB := Lib.hid hb1
              clear hb1
              go_wp2_with (fail)
              refine (rdigit x.toNat (by omega) _).mono ?_
              rintro e W2 ⟨rfl, rfl⟩
              go_wp2_with (fail)
              refine (rdigit y.toNat (by omega) _).mono ?_
              rintro e W2 ⟨rfl, rfl⟩
              go_wp2_with (fail)
              go_ret2
              exact ⟨by rw [fin.out]; rfl, HB.out⟩
          · have HX := Lib.hid hx0
            have hx1 : dgt x.toNat < 0 := by omega
            have fin : Hid (rdB s.data.toList = (0, 0)) := Lib.hid (by
              rw [HL.out]
              show (if plainP a.toNat then _ else _) = _
              rw [HP.out, if_neg (by decide), H92.out.1, H92.out.2]
              show (if 0 ≤ dgt x.toNat ∧ 0 ≤ dgt y.toNat then _ else _) = _
              rw [if_neg (fun h => HX.out h.1)])
            clear hx0 hdx hdy
            go_enter Tryd.func43, Tryd.ntmps43
            go_wp2_with (fail)
            refine (ritself a.toNat (by omega) _).mono ?_
            rintro e W1 ⟨rfl, hb1⟩
            rw [HP.out]
            have HB := Lib.hid hb1
            clear hb1
            go_wp2_with (fail)
            refine (rdigit x.toNat (by omega) _).mono ?_
            rintro e W2 ⟨rfl, rfl⟩
            go_wp2_with (fail)
            go_ret2
            exact ⟨by rw [fin.out]; rfl, HB.out⟩
        · have fin : Hid (rdB s.data.toList = (0, 0)) := Lib.hid (by
            rw [hl4]
            show (if plainP a.toNat then _ else _) = _
            rw [hp, if_neg (by decide)]
            split
            · rename_i x' y' t heq
              simp at heq
              exact absurd ⟨heq.1, heq.2.1⟩ h92
            · rfl)
          by_cases h91 : a = 92
          · have q1 : ((a.toNat : Int) != 92) = false := by rw [h91]; rfl
            have q2 : ((b1.toNat : Int) != 120) = true := by
              rw [bne_iff_ne]
              intro h
              exact h92 ⟨h91, u8_ext (by rw [h]; rfl)⟩
            clear hp hl ha h0 hl4 hb1 hx hy h92 h91
            go_enter Tryd.func43, Tryd.ntmps43
            go_wp2_with (fail)
            refine (ritself a.toNat (by omega) _).mono ?_
            rintro e W1 ⟨rfl, hb1⟩
            rw [HP.out]
            have HB := Lib.hid hb1
            clear hb1
            go_wp2_with (fail)
            go_ret2
            exact ⟨by rw [fin.out]; rfl, HB.out⟩
          · have q1 : ((a.toNat : Int) != 92) = true := by
              rw [bne_iff_ne]
              intro h
              exact h91 (u8_ext (by rw [h]; rfl))
            clear hp hl ha h0 hl4 hb1 hx hy h92 h91
            go_enter Tryd.func43, Tryd.ntmps43
            go_wp2_with (fail)
            refine (ritself a.toNat (by omega) _).mono ?_
            rintro e W1 ⟨rfl, hb1⟩
            rw [HP.out]
            have HB := Lib.hid hb1
            clear hb1
            go_wp2_with (fail)
            go_ret2
            exact ⟨by rw [fin.out]; rfl, HB.out⟩
    · have fin : Hid (rdB s.data.toList = (a.toNat, 1)) := Lib.hid (by rw [hl]; show (if plainP a.toNat then _ else _) = _; rw [hp]; rfl)
      have HP := Lib.hid hp
      have HL := Lib.hid hl
      clear hp hl ha h0
      go_enter Tryd.func43, Tryd.ntmps43
      go_wp2_with (fail)
      refine (ritself a.toNat (by omega) _).mono ?_
      rintro e W1 ⟨rfl, hb1⟩
      rw [HP.out]
      have HB := Lib.hid hb1
      clear hb1
      go_wp2_with (fail)
      go_ret2
      exact ⟨by rw [fin.out]; rfl, HB.out⟩
end Go.Proofs.YtcfdadgijnmemaaDoor
