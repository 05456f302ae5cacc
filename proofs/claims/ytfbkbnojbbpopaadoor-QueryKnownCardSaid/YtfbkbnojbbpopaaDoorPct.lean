/-
  The walks of percent: each function of the package returns what the plain functions say; condition: strings no longer than Go's own.
-/
import Derived.Test.YtfbkbnojbbpopaaDoorProg
import Derived.Test.YtfbkbnojbbpopaaDoorBase
import Derived.Test.YtfbkbnojbbpopaaDoorPctFn
import Derived.Test.YtfbkbnojbbpopaaDoorShelf
import Derived.Test.YtfbkbnojbbpopaaDoorInfo
import Derived.WalkSpells
import Derived.WalkLawsBesides
import Derived.Deep.QuietTactic
import Derived.BigQuiet
namespace Go.Proofs.YtfbkbnojbbpopaaDoor
open Go.RowKit

theorem hex_low : ∀ n : Nat, n < 256 → (97 ≤ n ∧ n ≤ 102 → Lib.indexByte [48, 49, 50, 51, 52, 53, 54, 55, 56, 57, 65, 66, 67, 68, 69, 70] (n - 32).toUInt8 = hexv n.toUInt8) ∧ (¬ (97 ≤ n ∧ n ≤ 102) → Lib.indexByte [48, 49, 50, 51, 52, 53, 54, 55, 56, 57, 65, 66, 67, 68, 69, 70] n.toUInt8 = hexv n.toUInt8) := by
  decide +kernel

theorem toU8_toNat (c : UInt8) : c.toNat.toUInt8 = c := by simp

set_option maxRecDepth 100000 in
set_option maxHeartbeats 400000 in
theorem pvalue (c : UInt8) (w : World) :
    Calls Tryd.prog 83 #[.int .u8 (c.toNat : Int)] w fun e w' => e = .returned (.int .i64 (hexv c)) ∧ w = w' := by
  have hc : (c.toNat : Int) < 256 := u8_bound c
  have hc0 : 0 ≤ (c.toNat : Int) := by omega
  have hh := Lib.hid (hex_low c.toNat c.toNat_lt)
  go_enter Tryd.func83, Tryd.ntmps83
  go_wp2_with (go_at_call 71; refine (Tryd.strings_IndexByte _ _ _).mono ?_; rintro e w' ⟨rfl, rfl⟩)
  all_goals go_ret
  all_goals refine ⟨ret_int ?_, rfl⟩
  all_goals have h := hh.out
  all_goals rw [toU8_toNat] at h
  · have e : ((c.toNat : Int) - 32).toNat = c.toNat - 32 := by omega
    have h1 := h.1 (by omega)
    simpa [e] using h1
  all_goals
    have h1 := h.2 (by omega)
    simpa using h1

set_option maxRecDepth 100000 in
set_option maxHeartbeats 400000 in
theorem pescape_yes (s : ByteArray) (b c : UInt8) (u : List UInt8) (w : World) (hs : s.size ≤ 1000000000) (hl : s.data.toList = 37 :: b :: c :: u) (hb : 0 ≤ hexv b) (hc : 0 ≤ hexv c) :
    Calls Tryd.prog 73 #[.string s] w fun e w' => e = .returned (.tuple #[.int .u8 ((escV b c).toNat : Int), .bool true]) ∧ ∃ n, w' = w.drewN n := by
  have h3 : 3 ≤ s.size := by rw [← size_data, hl]; simp
  have e0 : s[0] = 37 := by have := drop_at s 0 (by omega); rw [List.drop_zero, hl] at this; simpa using (List.cons.inj this).1.symm
  have e1 : s[1] = b := by have := drop_at s 1 (by omega); rw [hl] at this; simpa using (List.cons.inj this).1.symm
  have e2 : s[2] = c := by have := drop_at s 2 (by omega); rw [hl] at this; simpa using (List.cons.inj this).1.symm
  have bb := hexv_bound b
  have bc := hexv_bound c
  have he := Lib.hid (escV_int b c hb hc)
  clear hl
  go_enter Tryd.func73, Tryd.ntmps73
  go_wp2_with (go_at_call 83; refine (pvalue _ _).mono ?_; rintro e w' ⟨rfl, rfl⟩)
  go_quiet ((go_at_call 83; exact quiet_left (pvalue _ _)))
  go_wp2
  go_ret2
  rw [he.out]
  exact ⟨rfl, _, rfl⟩

theorem four_ways (s : ByteArray) (h : escL s.data.toList = false) : s.size < 3 ∨ (∃ h3 : 3 ≤ s.size, s[0] ≠ 37) ∨ (∃ h3 : 3 ≤ s.size, s[0] = 37 ∧ hexv s[1] < 0) ∨ (∃ h3 : 3 ≤ s.size, s[0] = 37 ∧ ¬ hexv s[1] < 0 ∧ hexv s[2] < 0) := by
  by_cases h3 : s.size < 3
  · exact .inl h3
  · have hl : s.data.toList = s[0] :: s[1] :: s[2] :: s.data.toList.drop 3 := by
      have d0 := drop_at s 0 (by omega)
      rw [drop_at s 1 (by omega), drop_at s 2 (by omega), List.drop_zero] at d0
      exact d0
    rw [hl, escL_three] at h
    have h3' : 3 ≤ s.size := by omega
    by_cases a : s[0] = 37
    · by_cases b : hexv s[1] < 0
      · exact .inr (.inr (.inl ⟨h3', a, b⟩))
      · by_cases c : hexv s[2] < 0
        · exact .inr (.inr (.inr ⟨h3', a, b, c⟩))
        · simp [a, Int.not_lt.1 b, Int.not_lt.1 c] at h
    · exact .inr (.inl ⟨h3', a⟩)

set_option maxRecDepth 100000 in
set_option maxHeartbeats 1000000 in
theorem pescape_no (s : ByteArray) (w : World) (hs : s.size ≤ 1000000000) (he : escL s.data.toList = false) :
    Calls Tryd.prog 73 #[.string s] w fun e w' => e = .returned (.tuple #[.int .u8 0, .bool false]) ∧ ∃ n, w' = w.drewN n := by
  have hw := four_ways s he
  clear he
  rcases hw with h | ⟨h3, h⟩ | ⟨h3, h, h1⟩ | ⟨h3, h, h1, h2⟩
  · have h' : (s.size : Int) < 3 := by omega
    go_enter Tryd.func73, Tryd.ntmps73
    go_wp2_with (fail)
    go_ret2
    exact ⟨rfl, 0, rfl⟩
  · have h' : ((s[0].toNat : Int) != 37) = true := by simpa using fun e => h (u8_ext (by simpa using e))
    clear h
    go_enter Tryd.func73, Tryd.ntmps73
    go_wp2_with (go_at_call 83; refine (pvalue _ _).mono ?_; rintro e w' ⟨rfl, rfl⟩)
    go_ret2
    exact ⟨rfl, 0, rfl⟩
  · go_enter Tryd.func73, Tryd.ntmps73
    go_wp2_with (go_at_call 83; refine (pvalue _ _).mono ?_; rintro e w' ⟨rfl, rfl⟩)
    go_ret2
    exact ⟨rfl, 0, rfl⟩
  · go_enter Tryd.func73, Tryd.ntmps73
    go_wp2_with (go_at_call 83; refine (pvalue _ _).mono ?_; rintro e w' ⟨rfl, rfl⟩)
    go_ret2
    exact ⟨rfl, 0, rfl⟩

set_option maxRecDepth 100000 in
set_option maxHeartbeats 400000 in
theorem pmore_yes (s : ByteArray) (b i : Nat) (w : World) (hi : i < s.size) (h0 : w.cell? ⟨b, 0, none⟩ = some (.string s)) (h1 : w.cell? ⟨b, 1, none⟩ = some (.int .i64 (i : Int))) :
    Calls Tryd.prog 63 #[.pointer (some ⟨b, 0, none⟩)] w fun e w' => e = .returned (.bool true) ∧ ∃ n, w' = w.drewN n := by
  go_enter Tryd.func63, Tryd.ntmps63
  go_wp2
  go_quiet (fail)
  go_wp2
  go_ret
  exact ⟨rfl, _, rfl⟩
set_option maxRecDepth 100000 in
set_option maxHeartbeats 400000 in
theorem pmore_no (s : ByteArray) (b i : Nat) (w : World) (hi : ¬ i < s.size) (h0 : w.cell? ⟨b, 0, none⟩ = some (.string s)) (h1 : w.cell? ⟨b, 1, none⟩ = some (.int .i64 (i : Int))) :
    Calls Tryd.prog 63 #[.pointer (some ⟨b, 0, none⟩)] w fun e w' => e = .returned (.bool false) ∧ ∃ n, w' = w.drewN n := by
  go_enter Tryd.func63, Tryd.ntmps63
  go_wp2
  go_quiet (fail)
  go_wp2
  go_ret
  exact ⟨rfl, _, rfl⟩

set_option maxRecDepth 100000 in
set_option maxHeartbeats 400000 in
theorem pnext_plain (s : ByteArray) (b i : Nat) (T : TypeId) (cs : Array Value) (w : World) (hs : s.size ≤ 1000000000) (hi : i < s.size) (hc : s[i] ≠ 37)
    (hb : Blk w b T cs) (g0 : cs[0]? = some (.string s)) (g1 : cs[1]? = some (.int .i64 (i : Int))) :
    Calls Tryd.prog 64 #[.pointer (some ⟨b, 0, none⟩)] w fun e w' => e = .returned (.tuple #[.int .u8 (s[i].toNat : Int), .int .i64 1]) ∧ Blk w' b T (cs.setIfInBounds 1 (.int .i64 ((i : Int) + 1))) ∧ w.grownBy w' (some b) := by
  have hc' : ((s[i].toNat : Int) != 37) = true := by simpa using fun e => hc (u8_ext (by simpa using e))
  have hi' : (i : Int) < s.size := by omega
  have hi0 : (0 : Int) ≤ i := by omega
  have h0 := hb.cell' g0
  have h1 := hb.cell' g1
  have hf := hb.frozen 1
  have hP := Lib.hid hb
  clear hc g0 g1 hb
  go_enter Tryd.func64, Tryd.ntmps64
  go_wp2
  go_quiet (fail)
  go_wp2
  go_quiet (fail)
  go_wp2
  go_ret2
  exact ⟨rfl, (hP.out.drewN _).set_ 1 _, (by repeat (first | exact only_refl _ _ | apply only_drewN | apply only_drew | refine only_setCell ?_ (.inl rfl) _ | apply only_alloc))⟩

set_option maxRecDepth 100000 in
set_option maxHeartbeats 400000 in
theorem pnext_esc (s : ByteArray) (b i : Nat) (T : TypeId) (cs : Array Value) (c d : UInt8) (u : List UInt8) (w : World) (hs : s.size ≤ 1000000000) (hi : i < s.size) (hl : s.data.toList.drop i = 37 :: c :: d :: u) (hc : 0 ≤ hexv c) (hd : 0 ≤ hexv d)
    (hb : Blk w b T cs) (g0 : cs[0]? = some (.string s)) (g1 : cs[1]? = some (.int .i64 (i : Int))) :
    Calls Tryd.prog 64 #[.pointer (some ⟨b, 0, none⟩)] w fun e w' => e = .returned (.tuple #[.int .u8 ((escV c d).toNat : Int), .int .i64 3]) ∧ Blk w' b T (cs.setIfInBounds 1 (.int .i64 ((i : Int) + 3))) ∧ w.grownBy w' (some b) := by
  have e0 : s[i] = 37 := by have := drop_at s i hi; rw [hl] at this; simpa using (List.cons.inj this).1.symm
  have hi' : (i : Int) < s.size := by omega
  have hi0 : (0 : Int) ≤ i := by omega
  have hn : i ≤ s.size := by omega
  have h0 := hb.cell' g0
  have h1 := hb.cell' g1
  have hf := hb.frozen 1
  have hP := Lib.hid hb
  have hx := Lib.hid (((ext_end s i).trans hl))
  have hz : (s.extract i s.size).size ≤ 1000000000 := by rw [ext_end_size]; omega
  clear g0 g1 hb hl
  go_enter Tryd.func64, Tryd.ntmps64
  go_wp2
  go_quiet (fail)
  go_wp2
  go_quiet ((go_at_call 73; exact quiet_add (pescape_yes _ c d u _ hz hx.out hc hd)))
  go_wp2
  go_ret2
  exact ⟨rfl, (hP.out.drewN _).set_ 1 _, (by repeat (first | exact only_refl _ _ | apply only_drewN | apply only_drew | refine only_setCell ?_ (.inl rfl) _ | apply only_alloc))⟩

set_option maxRecDepth 100000 in
set_option maxHeartbeats 400000 in
theorem pnext_bad (s : ByteArray) (b i : Nat) (T : TypeId) (cs : Array Value) (w : World) (hs : s.size ≤ 1000000000) (hi : i < s.size) (e0 : s[i] = 37) (hl : escL (s.data.toList.drop i) = false)
    (hb : Blk w b T cs) (g0 : cs[0]? = some (.string s)) (g1 : cs[1]? = some (.int .i64 (i : Int))) :
    Calls Tryd.prog 64 #[.pointer (some ⟨b, 0, none⟩)] w fun e w' => e = .returned (.tuple #[.int .u8 0, .int .i64 0]) ∧ Blk w' b T cs ∧ w.grownBy w' (some b) := by
  have hi' : (i : Int) < s.size := by omega
  have hi0 : (0 : Int) ≤ i := by omega
  have hn : i ≤ s.size := by omega
  have h0 := hb.cell' g0
  have h1 := hb.cell' g1
  have hf := hb.frozen 1
  have hP := Lib.hid hb
  have hx := Lib.hid (((congrArg escL (ext_end s i)).trans hl))
  have hz : (s.extract i s.size).size ≤ 1000000000 := by rw [ext_end_size]; omega
  clear g0 g1 hb hl
  go_enter Tryd.func64, Tryd.ntmps64
  go_wp2
  go_quiet (fail)
  go_wp2
  go_quiet ((go_at_call 73; exact quiet_add (pescape_no _ _ hz hx.out)))
  go_wp2
  go_ret2
  exact ⟨rfl, hP.out.drewN _, only_drewN (only_refl _ _) _⟩
end Go.Proofs.YtfbkbnojbbpopaaDoor
