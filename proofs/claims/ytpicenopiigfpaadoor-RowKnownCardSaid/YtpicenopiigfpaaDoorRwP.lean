/-
  The reference of rows, first part: blank, bare, Bare, value; condition: strings of at most 1000000000 bytes.
-/
import Derived.Test.YtpicenopiigfpaaDoorRwC
import Derived.Deep.LoopGhost
import Derived.Test.YtpicenopiigfpaaDoorByt
namespace Go.Proofs.YtpicenopiigfpaaDoor
open Go.RowKit
set_option linter.unusedVariables false
set_option linter.unusedSimpArgs false

theorem u8_eq {c : UInt8} {n : Nat} (h : c.toNat = n) : ((c.toNat : Int) == (n : Int)) = true := beq_iff_eq.2 (by omega)
theorem u8_nq {c : UInt8} {n : Nat} (h : c.toNat ≠ n) : ((c.toNat : Int) == (n : Int)) = false := beq_eq_false_iff_ne.2 (by omega)

set_option maxRecDepth 100000 in
set_option maxHeartbeats 400000 in
theorem rblank (c : UInt8) (w : World) :
    Calls Tryd.prog 49 #[.int .u8 (c.toNat : Int)] w fun e w' => e = .returned (.bool (isBl c)) ∧ w' = w := by
  have hb := u8_bound c
  rcases bl_cases c with ⟨hb, e1⟩ | ⟨hb, e1, e2⟩ | ⟨hb, e1, e2⟩
  all_goals
    have HX := Lib.hid hb
    clear hb
    go_enter Tryd.func49, Tryd.ntmps49
    go_wp2_with (fail)
    go_ret
    exact ⟨by rw [HX.out]; rfl, rfl⟩

set_option maxRecDepth 100000 in
set_option maxHeartbeats 400000 in
theorem rbare (c : UInt8) (w : World) :
    Calls Tryd.prog 44 #[.int .u8 (c.toNat : Int)] w fun e w' => e = .returned (.bool (bareC c)) ∧ w' = w := by
  have hb := u8_bound c
  by_cases h1 : 32 < c.toNat
  · by_cases h2 : c.toNat < 127
    · by_cases h3 : c.toNat = 34
      · have e : Hid (bareC c = false) := Lib.hid (by unfold bareC; rw [decide_eq_false (show ¬ c.toNat ≠ 34 by omega)]; simp)
        have a1 : (32 : Int) < c.toNat := by omega
        have a2 : (c.toNat : Int) < 127 := by omega
        have a3 : ((c.toNat : Int) != 34) = false := by simp; omega
        clear h1 h2 h3
        go_enter Tryd.func44, Tryd.ntmps44
        go_wp2_with (fail)
        go_ret
        exact ⟨by rw [e.out]; rfl, rfl⟩
      · have e : Hid (bareC c = true) := Lib.hid (by unfold bareC; rw [decide_eq_true (show 33 ≤ c.toNat by omega), decide_eq_true (show c.toNat ≤ 126 by omega), decide_eq_true h3]; rfl)
        have a1 : (32 : Int) < c.toNat := by omega
        have a2 : (c.toNat : Int) < 127 := by omega
        have a3 : ((c.toNat : Int) != 34) = true := by simp; omega
        clear h1 h2 h3
        go_enter Tryd.func44, Tryd.ntmps44
        go_wp2_with (fail)
        go_ret
        exact ⟨by rw [e.out]; rfl, rfl⟩
    · have e : Hid (bareC c = false) := Lib.hid (by unfold bareC; rw [decide_eq_false (show ¬ c.toNat ≤ 126 by omega)]; simp)
      have a1 : (32 : Int) < c.toNat := by omega
      have a2 : ¬ (c.toNat : Int) < 127 := by omega
      clear h1 h2
      go_enter Tryd.func44, Tryd.ntmps44
      go_wp2_with (fail)
      go_ret
      exact ⟨by rw [e.out]; rfl, rfl⟩
  · have e : Hid (bareC c = false) := Lib.hid (by unfold bareC; rw [decide_eq_false (show ¬ 33 ≤ c.toNat by omega)]; rfl)
    have a1 : ¬ (32 : Int) < c.toNat := by omega
    clear h1
    go_enter Tryd.func44, Tryd.ntmps44
    go_wp2_with (fail)
    go_ret
    exact ⟨by rw [e.out]; rfl, rfl⟩

/-! Bare. -/
theorem bare_no {l : List UInt8} {k : Nat} {c : UInt8} (h : l[k]? = some c) (hc : bareC c = false) : bareW l = false := by
  unfold bareW
  have : l.all bareC = false := by
    rw [List.all_eq_false]
    exact ⟨c, List.mem_of_getElem? h, by rw [hc]; decide⟩
  rw [this]; simp
theorem get_drop {s : ByteArray} {k : Nat} (h : k < s.size) : s.data.toList[k]? = some s[k] := by
  rw [Array.getElem?_toList]; exact Array.getElem?_eq_getElem h

set_option maxRecDepth 100000 in
set_option maxHeartbeats 1000000 in
theorem rBare (s : ByteArray) (w : World) (hs : s.size ≤ 1000000000) :
    Calls Tryd.prog 27 #[.string s] w fun e w' => e = .returned (.bool (bareW s.data.toList)) ∧ ∃ q, w' = w.drewN q := by
  go_enter Tryd.func27, Tryd.ntmps27
  go_wp2_with (fail)
  go_loopw [3] (fun iv wr => (∃ k : Nat, k ≤ s.size ∧ iv = .int .i64 (k : Int) ∧ (s.data.toList.take k).all bareC = true) ∧ wr = w) (fun iv _ => s.size - (intOf iv).toNat)
  case atStart => exact ⟨⟨0, Nat.zero_le _, rfl, rfl⟩, rfl⟩
  case round =>
    obtain ⟨⟨k, hk, rfl, hall⟩, rfl⟩ := hrel
    by_cases hlt : k < s.size
    · obtain ⟨y, hy⟩ : ∃ y, y = s[k] := ⟨_, rfl⟩
      have hys : s[k] = y := hy.symm
      have hxb := u8_bound y
      have hii : (k : Int) < s.size := by omega
      have hi0 : (0 : Int) ≤ k := by omega
      have htk := take_at s k hlt
      have hgd := get_drop hlt
      rw [hys] at htk hgd
      have A := Lib.hid (And.intro hall (And.intro htk hgd))
      clear hall htk hgd hy
      go_wp2_with (fail)
      refine (rbare y _).mono ?_
      rintro e W1 ⟨rfl, rfl⟩
      cases hb : bareC y
      · have HB := Lib.hid (bare_no A.out.2.2 hb)
        clear hb
        go_wp2_with (fail)
        go_ret
        exact ⟨by rw [HB.out]; rfl, 0, rfl⟩
      · have HB := Lib.hid hb
        clear hb
        go_wp2_with (fail)
        go_roundw
        case rel => exact ⟨⟨k + 1, by omega, rfl, by rw [A.out.2.1, List.all_append, A.out.1]; show (true && (bareC y && true)) = true; rw [HB.out]; rfl⟩, trivial⟩
        case measure => simp [intOf]; omega
    · have hk' : k = s.size := by omega
      subst hk'
      rw [List.take_of_length_le (by rw [size_data]; omega)] at hall
      by_cases h0 : s.size = 0
      · obtain rfl := empty_of_size h0
        go_wp2_with (fail)
        try go_quiet (fail)
        go_wp2_with (fail)
        go_ret
        exact ⟨rfl, 0, rfl⟩
      · have hne := ne_toList s (by omega)
        have hn := nonempty_b s (by omega)
        obtain ⟨y, hy⟩ : ∃ y, y = s[0]'(by omega) := ⟨_, rfl⟩
        have hys : s[0]'(by omega) = y := hy.symm
        have hgd := get_drop (s := s) (k := 0) (by omega)
        rw [hys] at hgd
        have hxb := u8_bound y
        have hbw : bareW s.data.toList = ((y.toNat : Int) != 35) := by
          unfold bareW
          rw [hall, decide_eq_true hne]
          rw [List.head?_eq_getElem?, hgd]
          by_cases h35 : y = 35
          · subst h35; rfl
          · have : y.toNat ≠ 35 := fun e => h35 (UInt8.toNat_inj.1 (by rw [e]; rfl))
            have h2 : ((y.toNat : Int) != 35) = true := by simp; omega
            rw [h2]; simp [h35]
        have HB := Lib.hid hbw
        have hlt0 : (0 : Int) < s.size := by omega
        clear hall hy hgd hbw
        go_wp2_with (fail)
        try go_quiet (fail)
        go_wp2_with (fail)
        go_ret
        exact ⟨by rw [HB.out]; rfl, 0, rfl⟩

/-! value. -/
theorem hexl_at' : ∀ n : Nat, n < 16 → ([48, 49, 50, 51, 52, 53, 54, 55, 56, 57, 97, 98, 99, 100, 101, 102] : List UInt8)[n]? = some (hexl n) := by decide
theorem hexls_at' (n : Nat) (h : n < 16) (h' : n < ({ data := #[48, 49, 50, 51, 52, 53, 54, 55, 56, 57, 97, 98, 99, 100, 101, 102] } : ByteArray).size) : ({ data := #[48, 49, 50, 51, 52, 53, 54, 55, 56, 57, 97, 98, 99, 100, 101, 102] } : ByteArray)[n]'h' = hexl n := by
  have e := hexl_at' n h
  rw [List.getElem?_eq_some_iff] at e
  obtain ⟨_, e⟩ := e
  exact e
/-- A digit in lower case. -/
def lowC (c : UInt8) : UInt8 := if 65 ≤ c.toNat ∧ c.toNat ≤ 70 then (c.toNat + 32).toUInt8 else c
theorem low_hit (c : UInt8) : ∀ k, k < 16 → hexl k = lowC c → hexv c = k :=
  u8_all (p := fun c => ∀ k, k < 16 → hexl k = lowC c → hexv c = k) (by decide +kernel) c
theorem low_none (c : UInt8) : (∀ k, k < 16 → hexl k ≠ lowC c) → hexv c = -1 :=
  u8_all (p := fun c => (∀ k, k < 16 → hexl k ≠ lowC c) → hexv c = -1) (by decide +kernel) c
set_option maxRecDepth 100000 in
set_option maxHeartbeats 1000000 in
theorem rvalue4 (c : UInt8) (w : World) :
    Calls Tryd.prog 73 #[.int .u8 (c.toNat : Int)] w fun e w' => e = .returned (.int .i64 (hexv c)) ∧ w' = w := by
  have hc := u8_bound c
  have hc0 : 0 ≤ (c.toNat : Int) := by omega
  obtain ⟨d, hd⟩ : ∃ d, d = lowC c := ⟨_, rfl⟩
  have hh := low_hit c
  have hn := low_none c
  rw [← hd] at hh hn
  have hds : (65 ≤ c.toNat ∧ c.toNat ≤ 70) ∧ (c.toNat : Int) - 65 + 97 = (d.toNat : Int) ∨ (65 ≤ c.toNat ∧ ¬ c.toNat ≤ 70) ∧ d = c ∨ ¬ 65 ≤ c.toNat ∧ d = c := by
    by_cases h : 65 ≤ c.toNat ∧ c.toNat ≤ 70
    · refine .inl ⟨h, ?_⟩
      rw [hd]; unfold lowC; rw [if_pos h]
      have : ((c.toNat + 32).toUInt8).toNat = c.toNat + 32 := by simp; omega
      omega
    · refine .inr ?_
      have hdc : d = c := by rw [hd]; unfold lowC; rw [if_neg h]
      by_cases h65 : 65 ≤ c.toNat
      · exact .inl ⟨⟨h65, fun h70 => h ⟨h65, h70⟩⟩, hdc⟩
      · exact .inr ⟨h65, hdc⟩
  have hdb := u8_bound d
  have HH := Lib.hid (And.intro hh hn)
  clear hh hn hd
  rcases hds with ⟨⟨h1, h2⟩, hw⟩ | ⟨⟨h1, h2⟩, rfl⟩ | ⟨h1, rfl⟩
  case' inl =>
    have a1 : (65 : Int) ≤ c.toNat := by omega
    have a2 : (c.toNat : Int) ≤ 70 := by omega
  case' inr.inl =>
    have a1 : (65 : Int) ≤ d.toNat := by omega
    have a2 : ¬ (d.toNat : Int) ≤ 70 := by omega
  case' inr.inr =>
    have a1 : ¬ (65 : Int) ≤ d.toNat := by omega
  all_goals
    try clear h1
    try clear h2
    go_enter Tryd.func73, Tryd.ntmps73
    go_wp2_with (fail)
    try rw [hw]
    go_loopw [3] (fun iv wr => (∃ k : Nat, k ≤ 16 ∧ iv = .int .i64 (k : Int) ∧ ∀ j, j < k → hexl j ≠ d) ∧ wr = w) (fun iv _ => 16 - (intOf iv).toNat)
    case atStart => exact ⟨⟨0, Nat.zero_le _, rfl, fun j hj => absurd hj (by omega)⟩, rfl⟩
    case round =>
      obtain ⟨⟨k, hk, rfl, hno⟩, rfl⟩ := hrel
      by_cases hlt : k < 16
      · have hii : (k : Int) < 16 := by omega
        have hi0 : (0 : Int) ≤ k := by omega
        have hx := fun h' => hexls_at' k hlt h'
        obtain ⟨y, hy⟩ : ∃ y, y = hexl k := ⟨_, rfl⟩
        have hxb := u8_bound y
        rw [← hy] at hx
        by_cases hyd : y = d
        · have HV := Lib.hid (HH.out.1 k hlt (by rw [← hy, hyd]))
          have hb : ((y.toNat : Int) == (d.toNat : Int)) = true := by rw [hyd]; simp
          clear hno hy hyd
          go_wp2_with (fail)
          go_ret
          exact ⟨by rw [HV.out]; rfl, rfl⟩
        · have hb : ((y.toNat : Int) == (d.toNat : Int)) = false := beq_eq_false_iff_ne.2 (fun e => hyd (u8_ext e))
          have HV := Lib.hid (And.intro hno (And.intro hy hyd))
          clear hno hy hyd
          go_wp2_with (fail)
          go_roundw
          case rel =>
            refine ⟨⟨k + 1, by omega, rfl, fun j hj => ?_⟩, trivial⟩
            by_cases e : j = k
            · subst e; rw [← HV.out.2.1]; exact HV.out.2.2
            · exact HV.out.1 j (by omega)
          case measure => simp [intOf]; omega
      · have hk' : k = 16 := by omega
        subst hk'
        have HV := Lib.hid (HH.out.2 hno)
        clear hno
        go_wp2_with (fail)
        go_ret
        exact ⟨by rw [HV.out]; rfl, rfl⟩
end Go.Proofs.YtpicenopiigfpaaDoor
