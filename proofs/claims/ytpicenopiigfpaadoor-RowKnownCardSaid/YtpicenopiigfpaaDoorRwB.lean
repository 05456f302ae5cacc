/-
  row's scanner: over, bare, and Bare, walked; condition: strings of at most 1000000000 bytes.
-/
import Derived.Test.YtpicenopiigfpaaDoorRwA
namespace Go.Proofs.YtpicenopiigfpaaDoor
open Go.RowKit
set_option linter.unusedVariables false
set_option linter.unusedSimpArgs false

set_option maxRecDepth 100000 in
set_option maxHeartbeats 2000000 in
theorem wover (s : ByteArray) (b k : Nat) (T : TypeId) (cs : Array Value) (w : World) (hs : s.size ≤ 1000000000) (hk : k ≤ s.size) (g0 : cs[0]? = some (.string s)) (g1 : 1 < cs.size) (hb : ScanAt w b T cs k) :
    Calls Tryd.prog 52 #[.pointer (some ⟨b, 0, none⟩)] w fun e w' => e = .returned (.bool (endL (s.data.toList.drop k))) ∧ ∃ n, w' = w.drewN n := by
  obtain ⟨c0, c1, f1, hl⟩ := hb.facts g0 g1
  clear hb g0 g1
  by_cases hlt : k < s.size
  · have hii : (k : Int) < s.size := by omega
    have hi0 : (0 : Int) ≤ k := by omega
    have hne : ((k : Int) == (s.size : Int)) = false := beq_eq_false_iff_ne.2 (by omega)
    obtain ⟨x, hx⟩ : ∃ x, x = s[k] := ⟨_, rfl⟩
    have hxs : s[k] = x := hx.symm
    have he : endL (s.data.toList.drop k) = isBl x := by rw [drop_at s k hlt, hxs]; rfl
    have HE := Lib.hid he
    have hxb := u8_bound x
    clear he hx
    rcases bl_cases x with ⟨hb, e1⟩ | ⟨hb, e1, e2⟩ | ⟨hb, e1, e2⟩
    all_goals
      have HX := Lib.hid hb
      clear hb
      go_enter Tryd.func52, Tryd.ntmps52
      go_wp2_with (fail)
      go_quiet (fail)
      go_wp2_with (fail)
      go_ret
      exact ⟨by rw [HE.out, HX.out]; rfl, _, rfl⟩
  · have hke : k = s.size := by omega
    have he : endL (s.data.toList.drop k) = true := by rw [drop_end s k (by omega)]; rfl
    have HE := Lib.hid he
    have heq : ((k : Int) == (s.size : Int)) = true := beq_iff_eq.2 (by omega)
    clear he hke
    go_enter Tryd.func52, Tryd.ntmps52
    go_wp2_with (fail)
    go_quiet (fail)
    go_wp2_with (fail)
    go_ret
    exact ⟨by rw [HE.out]; rfl, _, rfl⟩

/-- What bare hands back. -/
def bareR (s : ByteArray) (k : Nat) : Value := .tuple #[.string (s.extract k (k + barN (s.data.toList.drop k))), .bool (decide (0 < barN (s.data.toList.drop k)) && endL (s.data.toList.drop (k + barN (s.data.toList.drop k))))]
theorem bareR_at {s : ByteArray} {k0 k : Nat} (h : k = k0 + barN (s.data.toList.drop k0)) : bareR s k0 = .tuple #[.string (s.extract k0 k), .bool (decide (k0 < k) && endL (s.data.toList.drop k))] := by
  unfold bareR
  rw [← h, show decide (0 < barN (s.data.toList.drop k0)) = decide (k0 < k) by congr 1; exact propext ⟨fun _ => by omega, fun _ => by omega⟩]
theorem barN_size (s : ByteArray) {k : Nat} (h : k ≤ s.size) : k + barN (s.data.toList.drop k) ≤ s.size := by
  have := barN_le (s.data.toList.drop k)
  rw [List.length_drop, show s.data.toList.length = s.size from by simp] at this
  omega
set_option maxRecDepth 100000 in
set_option maxHeartbeats 4000000 in
theorem wbare (s : ByteArray) (b k0 : Nat) (T : TypeId) (cs : Array Value) (w : World) (hs : s.size ≤ 1000000000) (hk0 : k0 ≤ s.size) (g0 : cs[0]? = some (.string s)) (g1 : 1 < cs.size) (hb : ScanAt w b T cs k0) :
    Calls Tryd.prog 35 #[.pointer (some ⟨b, 0, none⟩)] w fun e w' => e = .returned (bareR s k0) ∧ ScanAt w' b T cs (k0 + barN (s.data.toList.drop k0)) ∧ w.grownBy w' (some b) := by
  have h0 := hb.facts g0 g1
  obtain ⟨a0, a1, _, _⟩ := h0
  have HB := Lib.hid (And.intro g0 (And.intro g1 hb))
  clear g0 g1 hb
  go_enter Tryd.func35, Tryd.ntmps35
  go_wp2_with (fail)
  go_loopg [] (s.size - k0) (fun n wr => ∃ k : Nat, n = s.size - k ∧ k0 ≤ k ∧ k ≤ s.size ∧ k + barN (s.data.toList.drop k) = k0 + barN (s.data.toList.drop k0) ∧ ScanAt wr b T cs k ∧ w.grownBy wr (some b))
  case atStart => exact ⟨k0, rfl, Nat.le_refl _, hk0, rfl, HB.out.2.2, only_refl _ _⟩
  case round =>
    obtain ⟨k, hn, hk1, hk, hsum, hsc, hgr⟩ := hrel
    obtain ⟨c0, c1, f1, hl⟩ := hsc.facts HB.out.1 HB.out.2.1
    have tail : barN (s.data.toList.drop k) = 0 → k = k0 + barN (s.data.toList.drop k0) := fun h => by rw [h] at hsum; omega
    have hov := fun (q : Nat) => wover s b k T cs (wr.drewN q) hs hk HB.out.1 HB.out.2.1 hsc
    have hov0 := wover s b k T cs wr hs hk HB.out.1 HB.out.2.1 hsc
    have hkk1 : (k0 : Int) ≤ k := by omega
    have hkk2 : (k : Int) ≤ s.size := by omega
    by_cases hlt : k < s.size
    · have hii : (k : Int) < s.size := by omega
      have hi0 : (0 : Int) ≤ k := by omega
      obtain ⟨x, hx⟩ : ∃ x, x = s[k] := ⟨_, rfl⟩
      have hxs : s[k] = x := hx.symm
      have hd := barN_drop hlt
      rw [hxs] at hd
      have hxb := u8_bound x
      have A := Lib.hid (And.intro hn (And.intro hsum (And.intro hsc (And.intro hgr (And.intro hd tail)))))
      clear hn hsum hsc hgr hd hx tail
      cases hb : bareC x
      · have HX := Lib.hid hb
        clear hb
        have hkk : k = k0 + barN (s.data.toList.drop k0) := A.out.2.2.2.2.2 (by rw [A.out.2.2.2.2.1, HX.out]; rfl)
        have HK := Lib.hid hkk
        clear hkk
        have hw := fun W => wplain x W
        rw [HX.out] at hw
        by_cases hgt : k0 < k
        · have hgi : (k0 : Int) < (k : Int) := by omega
          go_wp2_with (fail)
          go_quiet ((go_at_call 51; exact quiet_left (hw _)))
          go_wp2_with (fail)
          go_quiet ((go_at_call 52; exact quiet_add (hov _)))
          go_wp2_with (fail)
          go_ret2
          refine ⟨?_, ?_, only_drewN (only_drewN A.out.2.2.2.1 _) _⟩
          · rw [bareR_at HK.out, decide_eq_true hgt]; rfl
          · rw [← HK.out]; exact A.out.2.2.1
        · have hgi : ¬ (k0 : Int) < (k : Int) := by omega
          go_wp2_with (fail)
          go_quiet ((go_at_call 51; exact quiet_left (hw _)))
          go_wp2_with (fail)
          go_quiet (fail)
          go_wp2_with (fail)
          go_ret2
          refine ⟨?_, ?_, only_drewN (only_drewN A.out.2.2.2.1 _) _⟩
          · rw [bareR_at HK.out, decide_eq_false hgt]; rfl
          · rw [← HK.out]; exact A.out.2.2.1
      · have HX := Lib.hid hb
        clear hb
        have hw := fun W => wplain x W
        rw [HX.out] at hw
        go_wp2_with (fail)
        go_quiet ((go_at_call 51; exact quiet_left (hw _)))
        go_wp2_with (fail)
        go_roundg (s.size - (k + 1))
        case measure => have := A.out.1; omega
        case rel =>
          refine ⟨k + 1, rfl, by omega, hlt, ?_, (show ScanAt _ b T cs k from A.out.2.2.1).step, only_setCell (only_drewN A.out.2.2.2.1 _) (.inl rfl) _⟩
          rw [← A.out.2.1, A.out.2.2.2.2.1, if_pos HX.out]; omega
    · have hke : k = s.size := by omega
      have hkk : k = k0 + barN (s.data.toList.drop k0) := tail (by rw [drop_end s k (by omega)]; rfl)
      have HK := Lib.hid (And.intro hkk (And.intro hsc hgr))
      have hii : ¬ (k : Int) < s.size := by omega
      clear hkk hn hsum hsc hgr tail
      by_cases hgt : k0 < k
      · have hgi : (k0 : Int) < (k : Int) := by omega
        go_wp2_with (fail)
        go_quiet (fail)
        clear hke hlt hk
        go_wp2_with (fail)
        go_quiet ((go_at_call 52; exact quiet_add (hov _)))
        go_wp2_with (fail)
        go_ret2
        refine ⟨?_, ?_, only_drewN (only_drewN HK.out.2.2 _) _⟩
        · rw [bareR_at HK.out.1, decide_eq_true hgt]; rfl
        · rw [← HK.out.1]; exact HK.out.2.1
      · have hgi : ¬ (k0 : Int) < (k : Int) := by omega
        go_wp2_with (fail)
        go_quiet (fail)
        clear hke hlt hk
        go_wp2_with (fail)
        go_quiet (fail)
        go_wp2_with (fail)
        go_ret2
        refine ⟨?_, ?_, only_drewN (only_drewN HK.out.2.2 _) _⟩
        · rw [bareR_at HK.out.1, decide_eq_false hgt]; rfl
        · rw [← HK.out.1]; exact HK.out.2.1
end Go.Proofs.YtpicenopiigfpaaDoor
