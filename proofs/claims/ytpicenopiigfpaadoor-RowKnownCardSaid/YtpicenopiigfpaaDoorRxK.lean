/-
  The reference's Number, walked; condition: a string of at most 1000000 bytes.
-/
import Derived.Test.YtpicenopiigfpaaDoorRxJ
import Derived.Test.YtpicenopiigfpaaDoorRwP
namespace Go.Proofs.YtpicenopiigfpaaDoor
open Go.RowKit
set_option linter.unusedVariables false
set_option linter.unusedSimpArgs false

theorem all_take1 (l : List UInt8) (k : Nat) (c : UInt8) (h : l[k]? = some c) : (l.take (k + 1)).all isD = ((l.take k).all isD && isD c) := by
  rw [List.take_add_one, h, List.all_append]
  simp
theorem val_take1 (l : List UInt8) (k : Nat) (c : UInt8) (h : l[k]? = some c) : valF 0 (l.take (k + 1)) = 10 * valF 0 (l.take k) + (c.toNat - 48) := by
  rw [List.take_add_one, h]
  exact valF_snoc _ _ _
/-- The last steps: within the bounds, or not. -/
theorem num_ways (v lo hi : Int) : (v < lo ∧ (if v < lo ∨ hi < v then ((0 : Int), (2 : Int)) else (v, 0)) = (0, 2)) ∨ (¬ v < lo ∧ hi < v ∧ (if v < lo ∨ hi < v then ((0 : Int), (2 : Int)) else (v, 0)) = (0, 2)) ∨ (¬ v < lo ∧ ¬ hi < v ∧ (if v < lo ∨ hi < v then ((0 : Int), (2 : Int)) else (v, 0)) = (v, 0)) := by
  by_cases a : v < lo
  · exact .inl ⟨a, by rw [if_pos (.inl a)]⟩
  · by_cases b : hi < v
    · exact .inr (.inl ⟨a, b, by rw [if_pos (.inr b)]⟩)
    · exact .inr (.inr ⟨a, b, by rw [if_neg (by rintro (h | h); exact a h; exact b h)]⟩)

set_option maxRecDepth 100000 in
set_option maxHeartbeats 8000000 in
theorem rNumber (s : ByteArray) (lo hi : Int) (hs : s.size ≤ 1000000) (w : World) :
    Calls Tryd.prog 24 #[.string s, .int .i64 lo, .int .i64 hi] w fun e w' => e = .returned (numV (numR s.data.toList lo hi)) ∧ w' = w := by
  -- the sign
  obtain ⟨d, hd⟩ : ∃ d, d = mkB (trimM s.data.toList) := ⟨_, rfl⟩
  have hdl : d.data.toList = trimM s.data.toList := by rw [hd, mkB_data]
  obtain ⟨mi, hmi⟩ : ∃ b, b = decide (s.data.toList.head? = some 45) := ⟨_, rfl⟩
  have hds : d.size = (trimM s.data.toList).length := by rw [hd, mkB_size]
  have hd9 : d.size ≤ s.size := by
    rw [hds]
    unfold trimM
    split
    · rw [List.length_tail, size_data]; omega
    · rw [size_data]; exact Nat.le_refl _
  have hnum : numR s.data.toList lo hi = numX (if d.size = 0 ∨ 9 < d.size ∨ (d.data.toList.head? = some 48 ∧ (1 < d.size ∨ mi = true)) then none else if d.data.toList.all isD = true then some (if mi = true then -(valF 0 d.data.toList : Int) else (valF 0 d.data.toList : Int)) else none) lo hi := by
    have e1 : (trimM s.data.toList = []) = (d.size = 0) := by rw [hds]; exact propext List.length_eq_zero_iff.symm
    have e2 : (s.data.toList.head? = some 45) = (mi = true) := by rw [hmi, decide_eq_true_eq]
    unfold numR numS
    rw [hdl]
    simp only [e2, ← hds, e1]
  have hsign : (s.size = 0 ∧ mi = false ∧ d = s ∧ s = ⟨#[]⟩) ∨ (∃ h : 0 < s.size, ((s[0].toNat : Int) == 45) = mi ∧ (mi = true → d = s.extract 1 s.size) ∧ (mi = false → d = s)) := by
    by_cases h0 : s.size = 0
    · left
      have he := empty_of_size h0
      subst he
      exact ⟨rfl, by rw [hmi]; rfl, by rw [hd]; rfl, rfl⟩
    · right
      have h1 : 0 < s.size := by omega
      have hdr := drop_at s 0 h1
      rw [List.drop_zero] at hdr
      refine ⟨h1, ?_, fun h => ?_, fun h => ?_⟩
      · rw [hmi, hdr, Bool.eq_iff_iff, beq_iff_eq, decide_eq_true_eq]
        constructor
        · intro h
          have : s[0] = 45 := UInt8.toNat_inj.1 (by have : ((45 : UInt8).toNat : Int) = 45 := rfl
                                                    omega)
          rw [this]; rfl
        · intro h
          have : s[0] = 45 := by simpa using h
          rw [this]; rfl
      · rw [hmi, decide_eq_true_eq] at h
        rw [hd]
        apply str_ext
        rw [mkB_data, ext_end]
        unfold trimM
        rw [if_pos h, hdr]; rfl
      · rw [hmi, decide_eq_false_iff_not] at h
        rw [hd]
        unfold trimM
        rw [if_neg h, mkB_of]
  clear hdl hds hd hmi
  rcases hsign with ⟨h0, rfl, rfl, rfl⟩ | ⟨h0, hs0, ht, hf⟩
  · have hn : numR (⟨#[]⟩ : ByteArray).data.toList lo hi = (0, 3) := by rw [hnum, if_pos (.inl rfl)]; rfl
    have H := Lib.hid hn
    clear hn hnum
    go_enter Tryd.func24, Tryd.ntmps24
    go_wp2_with (fail)
    go_ret2
    exact ⟨by rw [H.out]; rfl, rfl⟩
  · have hne := nonempty_b s h0
    have hz0 : (0 : Int) < s.size := by omega
    obtain ⟨y0, hy0⟩ : ∃ y, y = s[0] := ⟨_, rfl⟩
    have hys0 : s[0] = y0 := hy0.symm
    rw [hys0] at hs0
    have hy0b := u8_bound y0
    obtain ⟨R, hR⟩ : ∃ R, R = numR s.data.toList lo hi := ⟨_, rfl⟩
    rw [← hR] at hnum ⊢
    clear hR hy0
    have hzs : 1 ≤ s.size := h0
    have hz1 : (1 : Int) ≤ s.size := by omega
    have hmm : mi = false ∨ mi = true := by cases mi <;> simp
    rcases hmm with hmi | hmi
    case' inl =>
      have hs1 : ((y0.toNat : Int) == 45) = false := by rw [hs0, hmi]
      have hx : Hid (d = s) := Lib.hid (hf hmi)
      obtain rfl : d = s := hf hmi
    case' inr =>
      have hs1 : ((y0.toNat : Int) == 45) = true := by rw [hs0, hmi]
      have hx : s.extract 1 s.size = d := (ht hmi).symm
    all_goals
      clear ht hf hs0
      have HM := Lib.hid hmi
      clear hmi
      by_cases hd0 : d.size = 0
      · have hR : R = (0, 3) := by rw [hnum, if_pos (.inl hd0)]; rfl
        obtain rfl := empty_of_size hd0
        have H := Lib.hid hR
        clear hR hnum
        first
          | (exfalso; exact absurd hzs (by decide))
          | (go_enter Tryd.func24, Tryd.ntmps24
             go_wp2_with (fail)
             go_ret2
             exact ⟨by rw [H.out]; rfl, rfl⟩)
      · have hned := nonempty_b d (by omega)
        have hd1 : 0 < d.size := by omega
        have hzd : (0 : Int) < d.size := by omega
        by_cases h9 : 9 < d.size
        · have hR : R = (0, 3) := by rw [hnum, if_pos (.inr (.inl h9))]; rfl
          have h9' : (9 : Int) < d.size := by omega
          have H := Lib.hid hR
          clear hR hnum h9
          go_enter Tryd.func24, Tryd.ntmps24
          go_wp2_with (fail)
          go_ret2
          exact ⟨by rw [H.out]; rfl, rfl⟩
        · have h9' : ¬ (9 : Int) < d.size := by omega
          obtain ⟨z, hz⟩ : ∃ z, z = d[0] := ⟨_, rfl⟩
          have hdz : d[0] = z := hz.symm
          first | (have hzy : z = y0 := hz.trans hys0; subst hzy) | skip
          have hzb := u8_bound z
          have hhd : d.data.toList.head? = some z := by
            have := drop_at d 0 hd1
            rw [List.drop_zero] at this
            rw [this, hdz]; rfl
          have hz48 : (some z = some (48 : UInt8)) = (z.toNat = 48) := propext ⟨fun h => by rw [Option.some.inj h]; rfl, fun h => congrArg some (UInt8.toNat_inj.1 (by rw [h]; rfl))⟩
          simp only [hhd, hz48] at hnum
          have hnum2 := fun (hb : ¬ (z.toNat = 48 ∧ (1 < d.size ∨ mi = true))) => hnum.trans (by rw [if_neg (by rintro (h | h | h); exact hd0 h; exact h9 h; exact hb h)])
          have hnum3 := fun (hb : z.toNat = 48 ∧ (1 < d.size ∨ mi = true)) => hnum.trans (by rw [if_pos (.inr (.inr hb))])
          clear hnum hhd hz48 hz
          by_cases hlead : z.toNat = 48 ∧ (1 < d.size ∨ mi = true)
          · have H := Lib.hid (hnum3 hlead)
            have hz1' : ((z.toNat : Int) == 48) = true := by rw [hlead.1]; rfl
            clear hnum2 hnum3
            by_cases hbig : 1 < d.size
            · have hbig' : (1 : Int) < d.size := by omega
              clear hlead
              go_enter Tryd.func24, Tryd.ntmps24
              go_wp2_with (fail)
              go_ret2
              exact ⟨by rw [H.out]; rfl, rfl⟩
            · have hbig' : ¬ (1 : Int) < d.size := by omega
              have hmt : mi = true := hlead.2.resolve_left hbig
              clear hlead
              first
                | (exfalso; rw [HM.out] at hmt; exact Bool.noConfusion hmt)
                | (go_enter Tryd.func24, Tryd.ntmps24
                   go_wp2_with (fail)
                   go_ret2
                   exact ⟨by rw [H.out]; rfl, rfl⟩)
          · have hR := hnum2 hlead
            have hway : ((z.toNat : Int) == 48) = false ∨ ((z.toNat : Int) == 48) = true ∧ ¬ (1 : Int) < d.size ∧ mi = false := by
              by_cases h : z.toNat = 48
              · right
                refine ⟨by rw [h]; rfl, fun e => hlead ⟨h, .inl (by omega)⟩, ?_⟩
                cases hm : mi
                · rfl
                · exact absurd ⟨h, .inr hm⟩ hlead
              · exact .inl (beq_eq_false_iff_ne.2 (by omega))
            have H := Lib.hid hR
            clear hnum2 hnum3 hR hlead
            rcases hway with hzw | ⟨hzw, hbw, hmw⟩
            all_goals try (exfalso; have hcc := HM.out.symm.trans hmw; exact Bool.noConfusion hcc)
            all_goals
              have hlen9 : d.size ≤ 9 := by omega
              clear hd0 h9
              go_enter Tryd.func24, Tryd.ntmps24
              go_wp2_with (fail)
              go_loopw [10, 11] (fun nv iv wr => (∃ k : Nat, k ≤ d.size ∧ iv = .int .i64 (k : Int) ∧ nv = .int .i64 (valF 0 (d.data.toList.take k) : Int) ∧ (d.data.toList.take k).all isD = true) ∧ wr = w) (fun _ iv _ => d.size - (intOf iv).toNat)
              case atStart => exact ⟨⟨0, Nat.zero_le _, rfl, rfl, rfl⟩, rfl⟩
              case round =>
                obtain ⟨⟨k, hk, rfl, rfl, hall⟩, rfl⟩ := hrel
                have hvb := valF_bound _ 0 hall
                rw [List.length_take, size_data, Nat.min_eq_left hk, Nat.zero_add, Nat.one_mul] at hvb
                have hp9 : 10 ^ k ≤ 10 ^ 9 := Nat.pow_le_pow_right (by decide) (by omega)
                have hv9 : valF 0 (d.data.toList.take k) < 1000000000 := by
                  have : (10 : Nat) ^ 9 = 1000000000 := by decide
                  omega
                clear hvb hp9
                by_cases hlt : k < d.size
                · have hki : (k : Int) < d.size := by omega
                  have hki0 : (0 : Int) ≤ k := by omega
                  have hgd := get_drop hlt
                  have hval := val_take1 _ _ _ hgd
                  have hal := all_take1 _ _ _ hgd
                  have hmem := List.mem_of_getElem? hgd
                  obtain ⟨y, hy⟩ : ∃ y, y = d[k] := ⟨_, rfl⟩
                  have hys : d[k] = y := hy.symm
                  rw [hys] at hval hal hmem
                  have hyb := u8_bound y
                  obtain ⟨a, ha⟩ : ∃ a, a = valF 0 (d.data.toList.take k) := ⟨_, rfl⟩
                  rw [← ha] at hv9 hval
                  rw [← ha]
                  by_cases hyd : 48 ≤ y.toNat ∧ y.toNat ≤ 57
                  · have q1 : ¬ (y.toNat : Int) < 48 := by omega
                    have q2 : ¬ (57 : Int) < y.toNat := by omega
                    have K := Lib.hid (And.intro hall (And.intro hval (And.intro hal (isD_iff.2 hyd))))
                    clear hall hval hal hgd hy ha hmem
                    go_wp2_with (fail)
                    go_roundw
                    case rel =>
                      refine ⟨⟨k + 1, by omega, rfl, ?_, by rw [K.out.2.2.1, K.out.1, K.out.2.2.2]; rfl⟩, trivial⟩
                      rw [K.out.2.1]
                      congr 1
                      omega
                    case measure => simp [intOf]; omega
                  · have hbadl : d.data.toList.all isD = false := by
                      rw [List.all_eq_false]
                      exact ⟨y, hmem, fun e => hyd (isD_iff.1 e)⟩
                    have hbad : R = (0, 3) := by rw [H.out, if_neg (by rw [hbadl]; decide)]; rfl
                    have K := Lib.hid hbad
                    clear hall hval hal hgd hy ha hmem hbad hbadl
                    rcases (show (y.toNat : Int) < 48 ∨ (¬ (y.toNat : Int) < 48 ∧ (57 : Int) < y.toNat) by omega) with q1 | ⟨q1, q2⟩
                    all_goals
                      clear hyd
                      go_wp2_with (fail)
                      go_ret2
                      exact ⟨by rw [K.out]; rfl, rfl⟩
                · have hki : ¬ (k : Int) < d.size := by omega
                  have htk : d.data.toList.take k = d.data.toList := List.take_of_length_le (by rw [size_data]; omega)
                  rw [htk] at hall hv9 ⊢
                  obtain ⟨a, ha⟩ : ∃ a, a = valF 0 d.data.toList := ⟨_, rfl⟩
                  have hres : R = numX (some (if mi = true then -(a : Int) else (a : Int))) lo hi := by rw [H.out, if_pos hall, ha]
                  rw [← ha] at hv9 ⊢
                  rw [HM.out] at hres
                  have K := Lib.hid hres
                  clear hall ha htk hres
                  rcases num_ways (-(a : Int)) lo hi with ⟨m1, m2⟩ | ⟨m1, m2, m3⟩ | ⟨m1, m2, m3⟩ <;> rcases num_ways (a : Int) lo hi with ⟨p1, p2⟩ | ⟨p1, p2, p3⟩ | ⟨p1, p2, p3⟩
                  all_goals
                    go_wp2_with (fail)
                    go_ret2
                    refine ⟨?_, rfl⟩
                    rw [K.out]
                    unfold numX numV
                    simp [*]
end Go.Proofs.YtpicenopiigfpaaDoor
