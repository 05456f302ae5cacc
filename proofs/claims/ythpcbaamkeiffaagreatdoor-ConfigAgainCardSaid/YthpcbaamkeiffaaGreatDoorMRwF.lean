/-
  row's quoted words, walked; condition: strings of at most 1000000000 bytes; the variable ErrSyntax holds an interface value.
-/
import Derived.Test.YthpcbaamkeiffaaGreatDoorMRwQt
import Derived.Test.YthpcbaamkeiffaaGreatDoorMInw
namespace Go.Proofs.YthpcbaamkeiffaaGreatDoor
open Go.RowKit
set_option linter.unusedVariables false
set_option linter.unusedSimpArgs false

/-- What quoted hands back. -/
def QuoP (s : ByteArray) (k0 : Nat) (T : TypeId) (cs : Array Value) (b : Nat) (r : Option (List UInt8 × Nat)) (e : Ending) (w' : World) : Prop := match r with
  | some r => e = .returned (.tuple #[.string (mkB r.1), .bool (endL (s.data.toList.drop (k0 + 1 + r.2)))]) ∧ ScanAt w' b T cs (k0 + 1 + r.2)
  | none => e = .returned (.tuple #[.string ⟨#[]⟩, .bool false]) ∧ ∃ k, ScanAt w' b T cs k
theorem quo_no {s : ByteArray} {k0 : Nat} {T : TypeId} {cs : Array Value} {b : Nat} {r : Option (List UInt8 × Nat)} {w' : World} {k : Nat} (hr : r = none) (h : ScanAt w' b T cs k) : QuoP s k0 T cs b r (.returned (.tuple #[.string ⟨#[]⟩, .bool false])) w' := by
  rw [hr]; exact ⟨rfl, k, h⟩
theorem quo_yes {s : ByteArray} {k0 : Nat} {T : TypeId} {cs : Array Value} {b : Nat} {r : Option (List UInt8 × Nat)} {w' : World} {k : Nat} {xs : List UInt8} (hr : r = some (xs, k - (k0 + 1))) (hk : k0 + 1 ≤ k) (h : ScanAt w' b T cs k) :
    QuoP s k0 T cs b r (.returned (.tuple #[.string (mkB xs), .bool (endL (s.data.toList.drop k))])) w' := by
  have e : k0 + 1 + (k - (k0 + 1)) = k := by omega
  rw [hr]
  show _ = Ending.returned (.tuple #[.string (mkB xs), .bool (endL (s.data.toList.drop (k0 + 1 + (k - (k0 + 1)))))]) ∧ ScanAt w' b T cs (k0 + 1 + (k - (k0 + 1)))
  rw [e]
  exact ⟨rfl, h⟩
/-- The scanner, the bytes that it has laid, and all that stays. -/
def QSt (w : World) (b : Nat) (T : TypeId) (cs : Array Value) (W : World) (xs : List UInt8) (v : Value) (k : Nat) : Prop :=
  ScanAt W b T cs k ∧ W.ownsRow w.heap.size 5 1 v xs.length (Lib.byteCells xs) ∧ BelowX w.heap.size b w W
section
variable {w W W' : World} {b : Nat} {T : TypeId} {cs : Array Value} {xs : List UInt8} {v v' : Value} {k : Nat}
theorem QSt.drewN (h : QSt w b T cs W xs v k) (n : Nat) : QSt w b T cs (W.drewN n) xs v k := ⟨h.1, own_drewN h.2.1 n, h.2.2.drewN n⟩
theorem QSt.step (h : QSt w b T cs W xs v k) (hT : 5 ≠ T) (k' : Nat) : QSt w b T cs (W.setCell ⟨b, 1, none⟩ (.int .i64 (k' : Int))) xs v k' :=
  ⟨h.1.step, own_setCell h.2.1 h.1 hT _, h.2.2.setCell (.inl rfl) _⟩
theorem QSt.call (h : QSt w b T cs W xs v k) (hb : Below W.heap.size W W') : QSt w b T cs W' xs v k :=
  ⟨Blk.call h.1 hb, own_below h.2.1 hb (Nat.le_refl _), h.2.2.trans (BelowX.of_below (hb.mono h.2.2.size) b)⟩
theorem QSt.push {x : UInt8} (h : QSt w b T cs W xs v k) (hT : 5 ≠ T) (hg : (W.alloc (.cells #[.int .u8 (x.toNat : Int)] 5)).grownBy W' v.ownBlock)
    (hown : W'.ownsRow w.heap.size 5 1 v' (xs.length + 1) (Lib.byteCells xs ++ [.int .u8 (x.toNat : Int)])) : QSt w b T cs W' (xs ++ [x]) v' k := by
  have ha := Blk.alloc h.1 (.cells #[.int .u8 (x.toNat : Int)] 5)
  refine ⟨ha.grown hg (own_blk_ne (h.2.1.alloc _) ha hT), ?_, (h.2.2.alloc h.2.2.size _).grown hg (by have := h.2.2.size; simp; omega) (fun k hk => (h.2.1.lt k hk).1)⟩
  rw [Lib.byteCells_append, List.length_append]
  exact hown
theorem QSt.err (h : QSt w b T cs W xs v k) (hv : ErrV w 7) (hb : 7 ≠ b) : ErrV W 7 := hv.belowX h.2.2 hv.lt hb
end
theorem wp_gen {P : Program} {c : Code} {Q : Exit → Act → World → Prop} {a : Act} {W0 : World} {p : World → Prop} (h0 : p W0) (h : ∀ W, p W → Code.wp P c Q a W) : Code.wp P c Q a W0 := h W0 h0
theorem quo_cases2 (l : List UInt8) : l = [] ∨ (∃ t, l = 34 :: t) ∨ (∃ c t, l = c :: t ∧ c ≠ 34 ∧ c ≠ 92 ∧ 32 ≤ c.toNat ∧ c.toNat ≤ 126) ∨ (∃ c t, l = c :: t ∧ ¬ (32 ≤ c.toNat ∧ c.toNat ≤ 126)) ∨ l = [92] ∨
    (∃ d u, l = 92 :: d :: u ∧ (d = 34 ∨ d = 92)) ∨ (∃ a b v, l = 92 :: 120 :: a :: b :: v) ∨ (∃ u, l = 92 :: 120 :: u ∧ u.length < 2) ∨ (∃ d u, l = 92 :: d :: u ∧ d ≠ 34 ∧ d ≠ 92 ∧ d ≠ 120) := by
  rcases quo_cases l with h | h | h | h | h | h | ⟨a, b, v, h, _⟩ | ⟨a, b, v, h, _⟩ | h | h
  · exact .inl h
  · exact .inr (.inl h)
  · exact .inr (.inr (.inl h))
  · exact .inr (.inr (.inr (.inl h)))
  · exact .inr (.inr (.inr (.inr (.inl h))))
  · exact .inr (.inr (.inr (.inr (.inr (.inl h)))))
  · exact .inr (.inr (.inr (.inr (.inr (.inr (.inl ⟨a, b, v, h⟩))))))
  · exact .inr (.inr (.inr (.inr (.inr (.inr (.inl ⟨a, b, v, h⟩))))))
  · exact .inr (.inr (.inr (.inr (.inr (.inr (.inr (.inl h)))))))
  · exact .inr (.inr (.inr (.inr (.inr (.inr (.inr (.inr h)))))))

set_option maxRecDepth 100000 in
set_option maxHeartbeats 8000000 in
theorem wquoted (s : ByteArray) (b k0 : Nat) (T : TypeId) (cs : Array Value) (w : World) (hs : s.size ≤ 1000000000) (hk0 : k0 < s.size) (g0 : cs[0]? = some (.string s)) (g1 : 1 < cs.size) (hT : 5 ≠ T) (hv : ErrV w 7) (hb0 : 7 ≠ b) (hb : ScanAt w b T cs k0) :
    Calls Tryz.prog 122 #[.pointer (some ⟨b, 0, none⟩)] w fun e w' => QuoP s k0 T cs b (quo (s.data.toList.drop (k0 + 1))) e w' ∧ BelowX w.heap.size b w w' := by
  obtain ⟨i0, hi, hz0, hz1, hz2⟩ := info_parts infoByte
  obtain ⟨c0, c1, f1, hl⟩ := hb.facts g0 g1
  have HB := Lib.hid (And.intro g0 (And.intro g1 (And.intro hb hv)))
  clear g0 g1 hb hv
  go_enter Tryz.func122, Tryz.ntmps122
  go_wp2_with (fail)
  go_step3
  go_wp2_with (fail)
  go_step3
  go_wp2_with (fail)
  go_loopg [4] (s.size - (k0 + 1)) (fun n v wr => ∃ (xs : List UInt8) (k : Nat), n = s.size - k ∧ QAt s k0 xs k ∧ QSt w b T cs wr xs v k)
  case atStart =>
    exact ⟨[], k0 + 1, rfl, QAt.start hk0, QSt.step (k := k0) ⟨HB.out.2.2.1, World.ownsRow_nil _ _ _ _, BelowX.refl _ _ _⟩ hT (k0 + 1)⟩
  case round =>
    obtain ⟨xs, k, hn, hat, hst⟩ := hrel
    obtain ⟨va, vc, rfl⟩ := own_slice hst.2.1
    obtain ⟨d0, d1, e1, hlk⟩ := hst.1.facts HB.out.1 HB.out.2.1
    have hki0 : (0 : Int) ≤ k := by omega
    have hWz := hst.2.2.size
    have hki1 : (k : Int) ≤ 1000000000 := by have := hat.1; omega
    have hxl : xs.length ≤ 1000000000 := by have := hat.1; have := hat.2.2.1; omega
    have A := Lib.hid (And.intro hn (And.intro hat hst))
    clear hn hat hst
    rcases quo_cases2 (s.data.toList.drop k) with h | ⟨t, h⟩ | ⟨c, t, h, h1, h2, h3, h4⟩ | ⟨c, t, h, h3⟩ | h | ⟨d, u, h, hd⟩ | ⟨a, b', v, h⟩ | ⟨u, h, hl2⟩ | ⟨d, u, h, h1, h2, h3⟩
    · have hke : k = s.size := by
        have hl := congrArg List.length h
        rw [List.length_drop, size_data, List.length_nil] at hl
        have := A.out.2.1.1; omega
      have H := Lib.hid (A.out.2.1.no (by rw [h, quo_nil]))
      have hlt : ¬ k < s.size := by omega
      clear h
      go_wp2_with (fail)
      go_quiet (fail)
      go_wp2_with (fail)
      rw [Exit.noGoto_ret]
      go_ret2
      exact ⟨quo_no H.out A.out.2.2.1, A.out.2.2.2.2.drewN _⟩
    · obtain ⟨hlt, hx, hdr⟩ := at_one h
      have hii : (k : Int) < s.size := by omega
      have H := Lib.hid (A.out.2.1.done h)
      clear h hdr
      go_wp2_with (fail)
      go_quiet (fail)
      go_wp2_with (fail)
      go_quiet (fail)
      go_wp2_with (fail)
      refine wp_gen (p := fun W => QSt w b T cs W xs (.slice va xs.length vc) (k + 1)) ((A.out.2.2.drewN _).step hT (k + 1)) ?_
      intro W S1
      obtain ⟨x0, x1, y1, z1⟩ := S1.1.facts HB.out.1 HB.out.2.1
      have hov := fun (q : Nat) => wover s b (k + 1) T cs (W.drewN q) hs (by omega) HB.out.1 HB.out.2.1 (S1.drewN q).1
      have hcv := fun (q : Nat) => run_own_string (P := Tryz.prog) (w := W.drewN q) (src := 123) (dst := 9) Tryz.underlying123 Tryz.underlying5 Tryz.underlying9 rfl (S1.drewN q).2.1
      have S := Lib.hid S1
      clear S1
      go_quiet ((go_at_call 147; exact Calls.quiet_of (hov _)))
      go_wp2_with (fail)
      rw [Exit.noGoto_ret]
      go_ret2
      exact ⟨quo_yes H.out (by have := A.out.2.1.2.1; omega) S.out.1, S.out.2.2.drewN _⟩
    · obtain ⟨hlt, hx, hdr⟩ := at_one h
      have hii : (k : Int) < s.size := by omega
      have hcb := u8_bound c
      have b1 : ((c.toNat : Int) == 34) = false := beq_eq_false_iff_ne.2 (by have := u8_ne (n := 34) (by decide) h1; omega)
      have b2 : ((c.toNat : Int) != 92) = true := by have := u8_ne (n := 92) (by decide) h2; simp; omega
      have b3 : ¬ (c.toNat : Int) < 32 := by omega
      have b4 : ¬ 126 < (c.toNat : Int) := by omega
      have H := Lib.hid (A.out.2.1.step (m := 1) hlt (by decide) hdr (by rw [h]; exact quo_plain h1 h2 ⟨h3, h4⟩))
      clear h h1 h2 h3 h4 hdr
      go_wp2_with (fail)
      go_quiet (fail)
      go_wp2_with (fail)
      go_quiet (fail)
      have hQ := fun (q : Nat) => (A.out.2.2.drewN q).step hT (k + 1)
      go_wp2_with (at_builtin; refine wpList_append_own _ rfl _ _ 123 rfl w.heap.size 5 i0 (.int .u8 0) 1 1 Tryz.underlying123 hi hz0 hz1 hz2 rfl (by decide) _ _ _ rfl ((hQ _).2.1.alloc _) ⟨_, 0, none⟩ 1 1 [.int .u8 (c.toNat : Int)] rfl rfl ?c1 ?c2 ?c3 ?c4 ?c5 ?_)
      case c1 => exact one_new (by simp) _ _
      case c2 => exact one_int _ _
      case c3 => unfold maxLen; omega
      case c4 => omega
      case c5 => simp; omega
      intro v' w2 hown' hgrow _
      have S2 := Lib.hid ((hQ _).push hT hgrow hown')
      obtain ⟨vb, vd, rfl⟩ := own_slice hown'
      clear hown' hgrow hQ
      go_wp2_with (fail)
      go_roundg (s.size - (k + 1))
      case measure => have := A.out.1; omega
      case rel => exact ⟨xs ++ [c], k + 1, rfl, H.out, S2.out⟩
    · obtain ⟨hlt, hx, hdr⟩ := at_one h
      have hii : (k : Int) < s.size := by omega
      have hcb := u8_bound c
      have b1 : ((c.toNat : Int) == 34) = false := beq_eq_false_iff_ne.2 (by omega)
      have H := Lib.hid (A.out.2.1.no (by rw [h]; exact quo_wrong h3))
      clear h hdr
      by_cases h5 : (c.toNat : Int) < 32
      · clear h3
        go_wp2_with (fail)
        go_quiet (fail)
        go_wp2_with (fail)
        go_quiet (fail)
        go_wp2_with (fail)
        rw [Exit.noGoto_ret]
        go_ret2
        exact ⟨quo_no H.out ((A.out.2.2.drewN _).step hT (k + 1)).1, ((A.out.2.2.drewN _).step hT (k + 1)).2.2⟩
      · have h6 : 126 < (c.toNat : Int) := by omega
        clear h3
        go_wp2_with (fail)
        go_quiet (fail)
        go_wp2_with (fail)
        go_quiet (fail)
        go_wp2_with (fail)
        rw [Exit.noGoto_ret]
        go_ret2
        exact ⟨quo_no H.out ((A.out.2.2.drewN _).step hT (k + 1)).1, ((A.out.2.2.drewN _).step hT (k + 1)).2.2⟩
    · obtain ⟨hlt, hx, hdr⟩ := at_one h
      have hii : (k : Int) < s.size := by omega
      obtain ⟨k1, hk1⟩ : ∃ k1, k1 = k + 1 := ⟨_, rfl⟩
      have hke : k1 = s.size := by
        have hl := congrArg List.length hdr
        rw [List.length_drop, size_data, List.length_nil] at hl
        omega
      have hb11 : ((k1 : Int) == (s.size : Int)) = true := beq_iff_eq.2 (by omega)
      have H := Lib.hid (A.out.2.1.no (by rw [h, quo_last]))
      clear h hdr hke
      go_wp2_with (fail)
      go_quiet (fail)
      go_wp2_with (fail)
      go_quiet (fail)
      go_wp2_with (fail)
      refine wp_gen (p := fun W => QSt w b T cs W xs (.slice va xs.length vc) (k + 1)) ((A.out.2.2.drewN _).step hT (k + 1)) ?_
      intro W S1
      rw [← hk1] at S1
      clear hk1
      obtain ⟨x0, x1, y1, z1⟩ := S1.1.facts HB.out.1 HB.out.2.1
      have S := Lib.hid S1
      clear S1
      go_quiet (fail)
      go_wp2_with (fail)
      rw [Exit.noGoto_ret]
      go_ret2
      exact ⟨quo_no H.out S.out.1, S.out.2.2.drewN _⟩
    · obtain ⟨hlt, hx, hdr⟩ := at_one h
      have hii : (k : Int) < s.size := by omega
      obtain ⟨k1, hk1⟩ : ∃ k1, k1 = k + 1 := ⟨_, rfl⟩
      rw [← hk1] at hdr
      obtain ⟨hlt1, hx1, hdr1⟩ := at_one hdr
      have hii1 : (k1 : Int) < s.size := by omega
      have hb11 : ((k1 : Int) == (s.size : Int)) = false := beq_eq_false_iff_ne.2 (by omega)
      have h01 : (0 : Int) ≤ k1 := by omega
      have H := Lib.hid (A.out.2.1.step (m := 2) (by omega) (by decide) (u := u) (by have := hdr1; rw [hk1] at this; exact this) (by rw [h]; exact quo_esc hd))
      clear h hdr hdr1
      rcases hd with rfl | rfl
      · go_wp2_with (fail)
        go_quiet (fail)
        go_wp2_with (fail)
        go_quiet (fail)
        go_wp2_with (fail)
        refine wp_gen (p := fun W => QSt w b T cs W xs (.slice va xs.length vc) (k + 1)) ((A.out.2.2.drewN _).step hT (k + 1)) ?_
        intro W S1
        rw [← hk1] at S1
        have HK := Lib.hid hk1
        clear hk1
        obtain ⟨x0, x1, y1, z1⟩ := S1.1.facts HB.out.1 HB.out.2.1
        have hWz1 := S1.2.2.size
        have S := Lib.hid S1
        have hQ := fun (q : Nat) => (S1.drewN q).step hT (k1 + 1)
        clear S1
        go_quiet (fail)
        go_wp2_with (fail)
        go_quiet (fail)
        go_wp2_with (at_builtin; refine wpList_append_own _ rfl _ _ 123 rfl w.heap.size 5 i0 (.int .u8 0) 1 1 Tryz.underlying123 hi hz0 hz1 hz2 rfl (by decide) _ _ _ rfl ((hQ _).2.1.alloc _) ⟨_, 0, none⟩ 1 1 [.int .u8 (34 : Int)] rfl rfl ?c1 ?c2 ?c3 ?c4 ?c5 ?_)
        case c1 => exact one_new (by simp) _ _
        case c2 => exact one_int _ _
        case c3 => unfold maxLen; omega
        case c4 => omega
        case c5 => simp; omega
        intro v' w2 hown' hgrow _
        have S2 := Lib.hid (show QSt w b T cs w2 (xs ++ [34]) v' (k + 2) by rw [show k + 2 = k1 + 1 by have := HK.out; omega]; exact (hQ _).push (x := 34) hT hgrow hown')
        obtain ⟨vb, vd, rfl⟩ := own_slice hown'
        clear hown' hgrow hQ
        go_wp2_with (fail)
        go_roundg (s.size - (k + 2))
        case measure => have := A.out.1; omega
        case rel => exact ⟨xs ++ [34], k + 2, rfl, H.out, S2.out⟩
      · go_wp2_with (fail)
        go_quiet (fail)
        go_wp2_with (fail)
        go_quiet (fail)
        go_wp2_with (fail)
        refine wp_gen (p := fun W => QSt w b T cs W xs (.slice va xs.length vc) (k + 1)) ((A.out.2.2.drewN _).step hT (k + 1)) ?_
        intro W S1
        rw [← hk1] at S1
        have HK := Lib.hid hk1
        clear hk1
        obtain ⟨x0, x1, y1, z1⟩ := S1.1.facts HB.out.1 HB.out.2.1
        have hWz1 := S1.2.2.size
        have S := Lib.hid S1
        have hQ := fun (q : Nat) => (S1.drewN q).step hT (k1 + 1)
        clear S1
        go_quiet (fail)
        go_wp2_with (fail)
        go_quiet (fail)
        go_wp2_with (at_builtin; refine wpList_append_own _ rfl _ _ 123 rfl w.heap.size 5 i0 (.int .u8 0) 1 1 Tryz.underlying123 hi hz0 hz1 hz2 rfl (by decide) _ _ _ rfl ((hQ _).2.1.alloc _) ⟨_, 0, none⟩ 1 1 [.int .u8 (92 : Int)] rfl rfl ?c1 ?c2 ?c3 ?c4 ?c5 ?_)
        case c1 => exact one_new (by simp) _ _
        case c2 => exact one_int _ _
        case c3 => unfold maxLen; omega
        case c4 => omega
        case c5 => simp; omega
        intro v' w2 hown' hgrow _
        have S2 := Lib.hid (show QSt w b T cs w2 (xs ++ [92]) v' (k + 2) by rw [show k + 2 = k1 + 1 by have := HK.out; omega]; exact (hQ _).push (x := 92) hT hgrow hown')
        obtain ⟨vb, vd, rfl⟩ := own_slice hown'
        clear hown' hgrow hQ
        go_wp2_with (fail)
        go_roundg (s.size - (k + 2))
        case measure => have := A.out.1; omega
        case rel => exact ⟨xs ++ [92], k + 2, rfl, H.out, S2.out⟩
    · obtain ⟨hlt, hx, hdr⟩ := at_one h
      have hii : (k : Int) < s.size := by omega
      obtain ⟨k1, hk1⟩ : ∃ k1, k1 = k + 1 := ⟨_, rfl⟩
      rw [← hk1] at hdr
      obtain ⟨hlt1, hx1, hdr1⟩ := at_one hdr
      have hii1 : (k1 : Int) < s.size := by omega
      have hb11 : ((k1 : Int) == (s.size : Int)) = false := beq_eq_false_iff_ne.2 (by omega)
      have h01 : (0 : Int) ≤ k1 := by omega
      obtain ⟨hk4, hex, hdr4⟩ := at_two hdr1
      have h16 := hx16_two a b'
      rw [← hex] at h16
      have hsz2 : (s.extract (k1 + 1) (k1 + 1 + 2)).size = 2 := by rw [← size_data, hex]; rfl
      have h02 : (0 : Int) ≤ (k1 : Int) + 1 := by omega
      have h42 : (k1 : Int) + 1 + 2 ≤ s.size := by omega
      have hpu1 := fun (W : World) (hE : ErrV W 7) => pu (s.extract (k1 + 1) (k1 + 1 + 2)) hsz2 W hE
      rw [h16] at hpu1
      obtain ⟨nn, Eu, hpu, hfin⟩ : ∃ (nn : Int) (Eu : Value → Prop), (∀ W : World, ErrV W 7 → Calls Tryz.prog 149 #[.string (s.extract (k1 + 1) (k1 + 1 + 2)), .int .i64 16, .int .i64 8] W fun e w' => (∃ u, e = .returned (.tuple #[.int .u64 nn, u]) ∧ Eu u) ∧ Below W.heap.size W w') ∧
          ((∃ y : UInt8, nn = (y.toNat : Int) ∧ Eu = (fun u => u = .nilIface) ∧ QAt s k0 (xs ++ [y]) (k + 4)) ∨ (Eu = (fun u => ∃ N, u = .iface 247 (.pointer (some ⟨N, 0, none⟩))) ∧ quo (s.data.toList.drop (k0 + 1)) = none)) := by
        by_cases hh : 0 ≤ hexv a ∧ 0 ≤ hexv b'
        · rw [if_pos hh] at hpu1
          have hev := escV_int a b' hh.1 hh.2
          refine ⟨((escV a b').toNat : Int), fun u => u = .nilIface, fun W hE => (hpu1 W hE).mono ?_, .inl ⟨escV a b', rfl, rfl, A.out.2.1.step (m := 4) (by omega) (by decide) (u := v) (by have := hdr4; rw [hk1] at this; exact this) (by rw [h]; exact quo_hex hh)⟩⟩
          rintro e w' ⟨hr, hb⟩
          refine ⟨⟨_, hr.trans ?_, rfl⟩, hb⟩
          rw [hev]
          congr 5
          omega
        · rw [if_neg hh] at hpu1
          refine ⟨0, fun u => ∃ N, u = .iface 247 (.pointer (some ⟨N, 0, none⟩)), fun W hE => (hpu1 W hE).mono ?_, .inr ⟨rfl, A.out.2.1.no (by rw [h]; exact quo_nohex hh)⟩⟩
          rintro e w' ⟨⟨N, hr⟩, hb⟩
          exact ⟨⟨_, hr, N, rfl⟩, hb⟩
      have HF := Lib.hid hfin
      clear h hdr hdr1 hdr4 hex hfin hpu1 h16
      go_wp2_with (fail)
      go_quiet (fail)
      go_wp2_with (fail)
      go_quiet (fail)
      go_wp2_with (fail)
      refine wp_gen (p := fun W => QSt w b T cs W xs (.slice va xs.length vc) (k + 1)) ((A.out.2.2.drewN _).step hT (k + 1)) ?_
      intro W S1
      rw [← hk1] at S1
      have HK := Lib.hid hk1
      clear hk1
      obtain ⟨x0, x1, y1, z1⟩ := S1.1.facts HB.out.1 HB.out.2.1
      have hWz1 := S1.2.2.size
      have S := Lib.hid S1
      have hQ := fun (q : Nat) => (S1.drewN q).step hT (k1 + 1)
      clear S1
      go_quiet (fail)
      go_wp2_with (fail)
      go_quiet (fail)
      go_wp2_with (fail)
      refine wp_gen (p := fun W => QSt w b T cs W xs (.slice va xs.length vc) (k1 + 1)) (hQ _) ?_
      clear hQ
      intro W2 S2
      obtain ⟨k2, hk2⟩ : ∃ k2, k2 = k1 + 1 := ⟨_, rfl⟩
      rw [← hk2] at S2
      obtain ⟨p0, p1, r1, t1⟩ := S2.1.facts HB.out.1 HB.out.2.1
      have hWz2 := S2.2.2.size
      rw [← hk2] at hpu hsz2
      obtain ⟨k4, hk4e⟩ : ∃ k4, k4 = k2 + 2 := ⟨_, rfl⟩
      rw [← hk4e] at hpu hsz2
      have hadd : (k2 : Int) + 2 = (k4 : Int) := by omega
      have n1 : k2 ≤ k4 := by omega
      have n2 : k4 ≤ s.size := by omega
      have n3 : (k2 : Int) ≤ k4 := by omega
      have n4 : (k4 : Int) ≤ s.size := by omega
      have hwr : IntKind.i64.wrap (k4 : Int) = (k4 : Int) := by rw [IntKind.wrap_i64]; omega
      clear h42 h02
      have h02 : (0 : Int) ≤ (k2 : Int) := by omega
      have S := Lib.hid S2
      have HK2 := Lib.hid hk2
      have HK4 := Lib.hid hk4e
      clear S2 hk2 hk4e hk4
      go_quiet (fail)
      go_wp2_with (fail)
      refine wp_gen (p := fun W => QSt w b T cs W xs (.slice va xs.length vc) k2) (S.out.drewN _) ?_
      clear S t1 p0 p1 r1 hWz2
      intro W4 S4
      obtain ⟨p0, p1, r1, t1⟩ := S4.1.facts HB.out.1 HB.out.2.1
      have hWz2 := S4.2.2.size
      have S := Lib.hid S4
      clear S4
      clear p0 p1 r1 t1
-- GEN17
      refine wp_region_late 20 [] (fun d x v => match d with
    | 117 => v = .pointer (some ⟨b, 0, none⟩)
    | 118 => v = .pointer (some ⟨b, 0, none⟩)
    | 119 => v = .pointer (some ⟨b, 0, none⟩)
    | 120 => v = .string s
    | 121 => v = .pointer (some ⟨b, 0, none⟩)
    | 122 => v = .pointer (some ⟨b, 0, none⟩)
    | 123 => v = .pointer (some ⟨b, 1, none⟩)
    | 124 => v = .int .i64 (k2 : Int)
    | 125 => v = .pointer (some ⟨b, 0, none⟩)
    | 126 => v = .pointer (some ⟨b, 0, none⟩)
    | 127 => v = .pointer (some ⟨b, 1, none⟩)
    | 128 => v = .int .i64 (k2 : Int)
    | 129 => v = .int .i64 (k4 : Int)
    | 130 => v = .string (s.extract k2 k4)
    | 131 => ∃ u, v = .tuple #[.int .u64 nn, u] ∧ Eu u
    | 116 => ∃ u, v = .tuple #[.int .u64 nn, u] ∧ Eu u
    | 132 => v = .int .u64 nn
    | 133 => Eu v
    | 6 => v = .int .u64 nn
    | 7 => Eu v
    | _ => v = .bool true) (by kernel_rfl) (by kernel_rfl) (by kernel_rfl) (by kernel_rfl) (by decide) ?stable ?dist ?steps ?fin
      case stable =>
        intro d x x' v hB h
        revert h
        split <;> intro h <;> exact h
      case dist =>
        intro d hd
        cases hd
      case steps =>
        refine ⟨?_, ?_⟩
        · intro a w' hB hsz hbase hdeps K hK
          obtain ⟨ev, hev⟩ : ∃ ev, ev = a.eval := ⟨_, rfl⟩
          have hec : ∀ v, ev (.const v) = v := fun v => by rw [hev]; rfl
          have hef : ∀ f, ev (.func f) = .func (.func f) #[] #[] := fun f => by rw [hev]; rfl
          rw [← hev] at hbase hdeps
          have b0 : ev (.tmp 0) = (.pointer (some ⟨b, 0, none⟩)) := (hbase 0 (by kernel_rfl))
          rw [if_pos (by kernel_rfl)]
          left
          refine step_val (v := .pointer (some ⟨b, 0, none⟩)) (w' := w') ?_ (hK _ _ (Below.refl _ _) (by intro d hd; cases hd; exact rfl) (by intro d hd hm; cases hd; exact absurd hm (by decide)))
          rw [← hev]
          clear hK hdeps hbase hev
          simp only [execOp, hec, hef, b0]
          go_simp
        refine ⟨?_, ?_⟩
        · intro a w' hB hsz hbase hdeps K hK
          obtain ⟨ev, hev⟩ : ∃ ev, ev = a.eval := ⟨_, rfl⟩
          have hec : ∀ v, ev (.const v) = v := fun v => by rw [hev]; rfl
          have hef : ∀ f, ev (.func f) = .func (.func f) #[] #[] := fun f => by rw [hev]; rfl
          rw [← hev] at hbase hdeps
          have d117 : ev (.tmp 117) = .pointer (some ⟨b, 0, none⟩) := hdeps 117 (of_decide_eq_true (by kernel_rfl))
          rw [if_pos (by kernel_rfl)]
          left
          refine step_val (v := .pointer (some ⟨b, 0, none⟩)) (w' := w') ?_ (hK _ _ (Below.refl _ _) (by intro d hd; cases hd; exact rfl) (by intro d hd hm; cases hd; exact absurd hm (by decide)))
          rw [← hev]
          clear hK hdeps hbase hev
          simp only [execOp, hec, hef, d117]
          go_simp
        refine ⟨?_, ?_⟩
        · intro a w' hB hsz hbase hdeps K hK
          obtain ⟨ev, hev⟩ : ∃ ev, ev = a.eval := ⟨_, rfl⟩
          have hec : ∀ v, ev (.const v) = v := fun v => by rw [hev]; rfl
          have hef : ∀ f, ev (.func f) = .func (.func f) #[] #[] := fun f => by rw [hev]; rfl
          rw [← hev] at hbase hdeps
          have d118 : ev (.tmp 118) = .pointer (some ⟨b, 0, none⟩) := hdeps 118 (of_decide_eq_true (by kernel_rfl))
          rw [if_pos (by kernel_rfl)]
          left
          refine step_val (v := .pointer (some ⟨b, 0, none⟩)) (w' := w') ?_ (hK _ _ (Below.refl _ _) (by intro d hd; cases hd; exact rfl) (by intro d hd hm; cases hd; exact absurd hm (by decide)))
          rw [← hev]
          clear hK hdeps hbase hev
          simp only [execOp, hec, hef, d118]
          go_simp
        refine ⟨?_, ?_⟩
        · intro a w' hB hsz hbase hdeps K hK
          obtain ⟨ev, hev⟩ : ∃ ev, ev = a.eval := ⟨_, rfl⟩
          have hec : ∀ v, ev (.const v) = v := fun v => by rw [hev]; rfl
          have hef : ∀ f, ev (.func f) = .func (.func f) #[] #[] := fun f => by rw [hev]; rfl
          rw [← hev] at hbase hdeps
          have d119 : ev (.tmp 119) = .pointer (some ⟨b, 0, none⟩) := hdeps 119 (of_decide_eq_true (by kernel_rfl))
          rw [if_pos (by kernel_rfl)]
          left
          obtain ⟨p0, p1, r1, t1⟩ := (S.out.call hB).1.facts HB.out.1 HB.out.2.1
          refine step_val (v := .string s) (w' := w') ?_ (hK _ _ (Below.refl _ _) (by intro d hd; cases hd; exact rfl) (by intro d hd hm; cases hd; exact absurd hm (by decide)))
          rw [← hev]
          clear hK hdeps hbase hev
          simp only [execOp, hec, hef, d119]
          go_simp
        refine ⟨?_, ?_⟩
        · intro a w' hB hsz hbase hdeps K hK
          obtain ⟨ev, hev⟩ : ∃ ev, ev = a.eval := ⟨_, rfl⟩
          have hec : ∀ v, ev (.const v) = v := fun v => by rw [hev]; rfl
          have hef : ∀ f, ev (.func f) = .func (.func f) #[] #[] := fun f => by rw [hev]; rfl
          rw [← hev] at hbase hdeps
          have b0 : ev (.tmp 0) = (.pointer (some ⟨b, 0, none⟩)) := (hbase 0 (by kernel_rfl))
          rw [if_pos (by kernel_rfl)]
          left
          refine step_val (v := .pointer (some ⟨b, 0, none⟩)) (w' := w') ?_ (hK _ _ (Below.refl _ _) (by intro d hd; cases hd; exact rfl) (by intro d hd hm; cases hd; exact absurd hm (by decide)))
          rw [← hev]
          clear hK hdeps hbase hev
          simp only [execOp, hec, hef, b0]
          go_simp
        refine ⟨?_, ?_⟩
        · intro a w' hB hsz hbase hdeps K hK
          obtain ⟨ev, hev⟩ : ∃ ev, ev = a.eval := ⟨_, rfl⟩
          have hec : ∀ v, ev (.const v) = v := fun v => by rw [hev]; rfl
          have hef : ∀ f, ev (.func f) = .func (.func f) #[] #[] := fun f => by rw [hev]; rfl
          rw [← hev] at hbase hdeps
          have d121 : ev (.tmp 121) = .pointer (some ⟨b, 0, none⟩) := hdeps 121 (of_decide_eq_true (by kernel_rfl))
          rw [if_pos (by kernel_rfl)]
          left
          refine step_val (v := .pointer (some ⟨b, 0, none⟩)) (w' := w') ?_ (hK _ _ (Below.refl _ _) (by intro d hd; cases hd; exact rfl) (by intro d hd hm; cases hd; exact absurd hm (by decide)))
          rw [← hev]
          clear hK hdeps hbase hev
          simp only [execOp, hec, hef, d121]
          go_simp
        refine ⟨?_, ?_⟩
        · intro a w' hB hsz hbase hdeps K hK
          obtain ⟨ev, hev⟩ : ∃ ev, ev = a.eval := ⟨_, rfl⟩
          have hec : ∀ v, ev (.const v) = v := fun v => by rw [hev]; rfl
          have hef : ∀ f, ev (.func f) = .func (.func f) #[] #[] := fun f => by rw [hev]; rfl
          rw [← hev] at hbase hdeps
          have d122 : ev (.tmp 122) = .pointer (some ⟨b, 0, none⟩) := hdeps 122 (of_decide_eq_true (by kernel_rfl))
          rw [if_pos (by kernel_rfl)]
          left
          refine step_val (v := .pointer (some ⟨b, 1, none⟩)) (w' := w') ?_ (hK _ _ (Below.refl _ _) (by intro d hd; cases hd; exact rfl) (by intro d hd hm; cases hd; exact absurd hm (by decide)))
          rw [← hev]
          clear hK hdeps hbase hev
          simp only [execOp, hec, hef, d122]
          go_simp
        refine ⟨?_, ?_⟩
        · intro a w' hB hsz hbase hdeps K hK
          obtain ⟨ev, hev⟩ : ∃ ev, ev = a.eval := ⟨_, rfl⟩
          have hec : ∀ v, ev (.const v) = v := fun v => by rw [hev]; rfl
          have hef : ∀ f, ev (.func f) = .func (.func f) #[] #[] := fun f => by rw [hev]; rfl
          rw [← hev] at hbase hdeps
          have d123 : ev (.tmp 123) = .pointer (some ⟨b, 1, none⟩) := hdeps 123 (of_decide_eq_true (by kernel_rfl))
          rw [if_pos (by kernel_rfl)]
          left
          obtain ⟨p0, p1, r1, t1⟩ := (S.out.call hB).1.facts HB.out.1 HB.out.2.1
          refine step_val (v := .int .i64 (k2 : Int)) (w' := w') ?_ (hK _ _ (Below.refl _ _) (by intro d hd; cases hd; exact rfl) (by intro d hd hm; cases hd; exact absurd hm (by decide)))
          rw [← hev]
          clear hK hdeps hbase hev
          simp only [execOp, hec, hef, d123]
          go_simp
        refine ⟨?_, ?_⟩
        · intro a w' hB hsz hbase hdeps K hK
          obtain ⟨ev, hev⟩ : ∃ ev, ev = a.eval := ⟨_, rfl⟩
          have hec : ∀ v, ev (.const v) = v := fun v => by rw [hev]; rfl
          have hef : ∀ f, ev (.func f) = .func (.func f) #[] #[] := fun f => by rw [hev]; rfl
          rw [← hev] at hbase hdeps
          have b0 : ev (.tmp 0) = (.pointer (some ⟨b, 0, none⟩)) := (hbase 0 (by kernel_rfl))
          rw [if_pos (by kernel_rfl)]
          left
          refine step_val (v := .pointer (some ⟨b, 0, none⟩)) (w' := w') ?_ (hK _ _ (Below.refl _ _) (by intro d hd; cases hd; exact rfl) (by intro d hd hm; cases hd; exact absurd hm (by decide)))
          rw [← hev]
          clear hK hdeps hbase hev
          simp only [execOp, hec, hef, b0]
          go_simp
        refine ⟨?_, ?_⟩
        · intro a w' hB hsz hbase hdeps K hK
          obtain ⟨ev, hev⟩ : ∃ ev, ev = a.eval := ⟨_, rfl⟩
          have hec : ∀ v, ev (.const v) = v := fun v => by rw [hev]; rfl
          have hef : ∀ f, ev (.func f) = .func (.func f) #[] #[] := fun f => by rw [hev]; rfl
          rw [← hev] at hbase hdeps
          have d125 : ev (.tmp 125) = .pointer (some ⟨b, 0, none⟩) := hdeps 125 (of_decide_eq_true (by kernel_rfl))
          rw [if_pos (by kernel_rfl)]
          left
          refine step_val (v := .pointer (some ⟨b, 0, none⟩)) (w' := w') ?_ (hK _ _ (Below.refl _ _) (by intro d hd; cases hd; exact rfl) (by intro d hd hm; cases hd; exact absurd hm (by decide)))
          rw [← hev]
          clear hK hdeps hbase hev
          simp only [execOp, hec, hef, d125]
          go_simp
        refine ⟨?_, ?_⟩
        · intro a w' hB hsz hbase hdeps K hK
          obtain ⟨ev, hev⟩ : ∃ ev, ev = a.eval := ⟨_, rfl⟩
          have hec : ∀ v, ev (.const v) = v := fun v => by rw [hev]; rfl
          have hef : ∀ f, ev (.func f) = .func (.func f) #[] #[] := fun f => by rw [hev]; rfl
          rw [← hev] at hbase hdeps
          have d126 : ev (.tmp 126) = .pointer (some ⟨b, 0, none⟩) := hdeps 126 (of_decide_eq_true (by kernel_rfl))
          rw [if_pos (by kernel_rfl)]
          left
          refine step_val (v := .pointer (some ⟨b, 1, none⟩)) (w' := w') ?_ (hK _ _ (Below.refl _ _) (by intro d hd; cases hd; exact rfl) (by intro d hd hm; cases hd; exact absurd hm (by decide)))
          rw [← hev]
          clear hK hdeps hbase hev
          simp only [execOp, hec, hef, d126]
          go_simp
        refine ⟨?_, ?_⟩
        · intro a w' hB hsz hbase hdeps K hK
          obtain ⟨ev, hev⟩ : ∃ ev, ev = a.eval := ⟨_, rfl⟩
          have hec : ∀ v, ev (.const v) = v := fun v => by rw [hev]; rfl
          have hef : ∀ f, ev (.func f) = .func (.func f) #[] #[] := fun f => by rw [hev]; rfl
          rw [← hev] at hbase hdeps
          have d127 : ev (.tmp 127) = .pointer (some ⟨b, 1, none⟩) := hdeps 127 (of_decide_eq_true (by kernel_rfl))
          rw [if_pos (by kernel_rfl)]
          left
          obtain ⟨p0, p1, r1, t1⟩ := (S.out.call hB).1.facts HB.out.1 HB.out.2.1
          refine step_val (v := .int .i64 (k2 : Int)) (w' := w') ?_ (hK _ _ (Below.refl _ _) (by intro d hd; cases hd; exact rfl) (by intro d hd hm; cases hd; exact absurd hm (by decide)))
          rw [← hev]
          clear hK hdeps hbase hev
          simp only [execOp, hec, hef, d127]
          go_simp
        refine ⟨?_, ?_⟩
        · intro a w' hB hsz hbase hdeps K hK
          obtain ⟨ev, hev⟩ : ∃ ev, ev = a.eval := ⟨_, rfl⟩
          have hec : ∀ v, ev (.const v) = v := fun v => by rw [hev]; rfl
          have hef : ∀ f, ev (.func f) = .func (.func f) #[] #[] := fun f => by rw [hev]; rfl
          rw [← hev] at hbase hdeps
          have d128 : ev (.tmp 128) = .int .i64 (k2 : Int) := hdeps 128 (of_decide_eq_true (by kernel_rfl))
          rw [if_pos (by kernel_rfl)]
          left
          refine step_val (v := .int .i64 (k4 : Int)) (w' := w') ?_ (hK _ _ (Below.refl _ _) (by intro d hd; cases hd; exact rfl) (by intro d hd hm; cases hd; exact absurd hm (by decide)))
          rw [← hev]
          clear hK hdeps hbase hev
          simp only [execOp, hec, hef, d128]
          go_simp
        refine ⟨?_, ?_⟩
        · intro a w' hB hsz hbase hdeps K hK
          obtain ⟨ev, hev⟩ : ∃ ev, ev = a.eval := ⟨_, rfl⟩
          have hec : ∀ v, ev (.const v) = v := fun v => by rw [hev]; rfl
          have hef : ∀ f, ev (.func f) = .func (.func f) #[] #[] := fun f => by rw [hev]; rfl
          rw [← hev] at hbase hdeps
          have d120 : ev (.tmp 120) = .string s := hdeps 120 (of_decide_eq_true (by kernel_rfl))
          have d124 : ev (.tmp 124) = .int .i64 (k2 : Int) := hdeps 124 (of_decide_eq_true (by kernel_rfl))
          have d129 : ev (.tmp 129) = .int .i64 (k4 : Int) := hdeps 129 (of_decide_eq_true (by kernel_rfl))
          rw [if_pos (by kernel_rfl)]
          left
          refine step_val (v := .string (s.extract k2 k4)) (w' := w') ?_ (hK _ _ (Below.refl _ _) (by intro d hd; cases hd; exact rfl) (by intro d hd hm; cases hd; exact absurd hm (by decide)))
          rw [← hev]
          clear hK hdeps hbase hev
          simp only [execOp, hec, hef, d120, d124, d129]
          go_simp
        refine ⟨?_, ?_⟩
        · intro a w' hB hsz hbase hdeps K hK
          obtain ⟨ev, hev⟩ : ∃ ev, ev = a.eval := ⟨_, rfl⟩
          have hec : ∀ v, ev (.const v) = v := fun v => by rw [hev]; rfl
          have hef : ∀ f, ev (.func f) = .func (.func f) #[] #[] := fun f => by rw [hev]; rfl
          rw [← hev] at hbase hdeps
          have d130 : ev (.tmp 130) = .string (s.extract k2 k4) := hdeps 130 (of_decide_eq_true (by kernel_rfl))
          rw [if_pos (by kernel_rfl)]
          left
          refine step_enter (w' := w') (f := 149) (args := #[.string (s.extract k2 k4), .int .i64 16, .int .i64 8]) ?_ ?_
          · rw [← hev]
            clear hK hdeps hbase hev
            simp only [execOp, hec, hef, d130]
            go_simp
          · refine (hpu w' (by exact (S.out.call hB).err HB.out.2.2.2 hb0)).mono ?_
            rintro e W ⟨⟨u, rfl, hu⟩, hb⟩
            exact ⟨_, rfl, hK _ _ hb (by intro d hd; cases hd; exact ⟨u, rfl, hu⟩) (by intro d hd hm; cases hd; exact absurd hm (by decide))⟩
        refine ⟨?_, ?_⟩
        · intro a w' hB hsz hbase hdeps K hK
          obtain ⟨ev, hev⟩ : ∃ ev, ev = a.eval := ⟨_, rfl⟩
          have hec : ∀ v, ev (.const v) = v := fun v => by rw [hev]; rfl
          have hef : ∀ f, ev (.func f) = .func (.func f) #[] #[] := fun f => by rw [hev]; rfl
          rw [← hev] at hbase hdeps
          have dd := hdeps 131 (of_decide_eq_true (by kernel_rfl))
          obtain ⟨u, du, hu⟩ := dd
          rw [if_pos (by kernel_rfl)]
          left
          refine step_val (v := .tuple #[.int .u64 nn, u]) (w' := w') ?_ (hK _ _ (Below.refl _ _) (by intro d hd; cases hd; exact ⟨u, rfl, hu⟩) (by intro d hd hm; cases hd; exact absurd hm (by decide)))
          rw [← hev]
          clear hK hdeps hbase hev
          simp only [execOp, hec, hef, du]
          go_simp
        refine ⟨?_, ?_⟩
        · intro a w' hB hsz hbase hdeps K hK
          obtain ⟨ev, hev⟩ : ∃ ev, ev = a.eval := ⟨_, rfl⟩
          have hec : ∀ v, ev (.const v) = v := fun v => by rw [hev]; rfl
          have hef : ∀ f, ev (.func f) = .func (.func f) #[] #[] := fun f => by rw [hev]; rfl
          rw [← hev] at hbase hdeps
          have dd := hdeps 116 (of_decide_eq_true (by kernel_rfl))
          obtain ⟨u, du, hu⟩ := dd
          rw [if_pos (by kernel_rfl)]
          left
          refine step_val (v := .int .u64 nn) (w' := w') ?_ (hK _ _ (Below.refl _ _) (by intro d hd; cases hd; exact rfl) (by intro d hd hm; cases hd; exact absurd hm (by decide)))
          rw [← hev]
          clear hK hdeps hbase hev
          simp only [execOp, hec, hef, du]
          go_simp
        refine ⟨?_, ?_⟩
        · intro a w' hB hsz hbase hdeps K hK
          obtain ⟨ev, hev⟩ : ∃ ev, ev = a.eval := ⟨_, rfl⟩
          have hec : ∀ v, ev (.const v) = v := fun v => by rw [hev]; rfl
          have hef : ∀ f, ev (.func f) = .func (.func f) #[] #[] := fun f => by rw [hev]; rfl
          rw [← hev] at hbase hdeps
          have dd := hdeps 116 (of_decide_eq_true (by kernel_rfl))
          obtain ⟨u, du, hu⟩ := dd
          rw [if_pos (by kernel_rfl)]
          left
          refine step_val (v := u) (w' := w') ?_ (hK _ _ (Below.refl _ _) (by intro d hd; cases hd; exact hu) (by intro d hd hm; cases hd; exact absurd hm (by decide)))
          rw [← hev]
          clear hK hdeps hbase hev
          simp only [execOp, hec, hef, du]
          go_simp
        refine ⟨?_, ?_⟩
        · intro a w' hB hsz hbase hdeps K hK
          obtain ⟨ev, hev⟩ : ∃ ev, ev = a.eval := ⟨_, rfl⟩
          have hec : ∀ v, ev (.const v) = v := fun v => by rw [hev]; rfl
          have hef : ∀ f, ev (.func f) = .func (.func f) #[] #[] := fun f => by rw [hev]; rfl
          rw [← hev] at hbase hdeps
          have d132 : ev (.tmp 132) = .int .u64 nn := hdeps 132 (of_decide_eq_true (by kernel_rfl))
          rw [if_pos (by kernel_rfl)]
          left
          refine step_val (v := .int .u64 nn) (w' := w') ?_ (hK _ _ (Below.refl _ _) (by intro d hd; cases hd; exact rfl) (by intro d hd hm; cases hd; exact absurd hm (by decide)))
          rw [← hev]
          clear hK hdeps hbase hev
          simp only [execOp, hec, hef, d132]
          go_simp
        refine ⟨?_, ?_⟩
        · intro a w' hB hsz hbase hdeps K hK
          obtain ⟨ev, hev⟩ : ∃ ev, ev = a.eval := ⟨_, rfl⟩
          have hec : ∀ v, ev (.const v) = v := fun v => by rw [hev]; rfl
          have hef : ∀ f, ev (.func f) = .func (.func f) #[] #[] := fun f => by rw [hev]; rfl
          rw [← hev] at hbase hdeps
          have hu := hdeps 133 (of_decide_eq_true (by kernel_rfl))
          obtain ⟨u, du⟩ : ∃ u, ev (.tmp 133) = u := ⟨_, rfl⟩
          rw [du] at hu
          rw [if_pos (by kernel_rfl)]
          left
          refine step_val (v := u) (w' := w') ?_ (hK _ _ (Below.refl _ _) (by intro d hd; cases hd; exact hu) (by intro d hd hm; cases hd; exact absurd hm (by decide)))
          rw [← hev]
          clear hK hdeps hbase hev
          simp only [execOp, hec, hef, du]
          go_simp
        exact trivial

      case fin =>
      intro a x hB hsz hdef hbase hS _
      have v117 : a.eval (.tmp 117) = .pointer (some ⟨b, 0, none⟩) := hS _ (List.mem_of_getElem? (i := 0) rfl) 117 rfl
      have v118 : a.eval (.tmp 118) = .pointer (some ⟨b, 0, none⟩) := hS _ (List.mem_of_getElem? (i := 1) rfl) 118 rfl
      have v119 : a.eval (.tmp 119) = .pointer (some ⟨b, 0, none⟩) := hS _ (List.mem_of_getElem? (i := 2) rfl) 119 rfl
      have v120 : a.eval (.tmp 120) = .string s := hS _ (List.mem_of_getElem? (i := 3) rfl) 120 rfl
      have v121 : a.eval (.tmp 121) = .pointer (some ⟨b, 0, none⟩) := hS _ (List.mem_of_getElem? (i := 4) rfl) 121 rfl
      have v122 : a.eval (.tmp 122) = .pointer (some ⟨b, 0, none⟩) := hS _ (List.mem_of_getElem? (i := 5) rfl) 122 rfl
      have v123 : a.eval (.tmp 123) = .pointer (some ⟨b, 1, none⟩) := hS _ (List.mem_of_getElem? (i := 6) rfl) 123 rfl
      have v124 : a.eval (.tmp 124) = .int .i64 (k2 : Int) := hS _ (List.mem_of_getElem? (i := 7) rfl) 124 rfl
      have v125 : a.eval (.tmp 125) = .pointer (some ⟨b, 0, none⟩) := hS _ (List.mem_of_getElem? (i := 8) rfl) 125 rfl
      have v126 : a.eval (.tmp 126) = .pointer (some ⟨b, 0, none⟩) := hS _ (List.mem_of_getElem? (i := 9) rfl) 126 rfl
      have v127 : a.eval (.tmp 127) = .pointer (some ⟨b, 1, none⟩) := hS _ (List.mem_of_getElem? (i := 10) rfl) 127 rfl
      have v128 : a.eval (.tmp 128) = .int .i64 (k2 : Int) := hS _ (List.mem_of_getElem? (i := 11) rfl) 128 rfl
      have v129 : a.eval (.tmp 129) = .int .i64 (k4 : Int) := hS _ (List.mem_of_getElem? (i := 12) rfl) 129 rfl
      have v130 : a.eval (.tmp 130) = .string (s.extract k2 k4) := hS _ (List.mem_of_getElem? (i := 13) rfl) 130 rfl
      obtain ⟨u131, v131, _⟩ : ∃ u, a.eval (.tmp 131) = .tuple #[.int .u64 nn, u] ∧ Eu u := hS _ (List.mem_of_getElem? (i := 14) rfl) 131 rfl
      obtain ⟨u116, v116, _⟩ : ∃ u, a.eval (.tmp 116) = .tuple #[.int .u64 nn, u] ∧ Eu u := hS _ (List.mem_of_getElem? (i := 15) rfl) 116 rfl
      have v132 : a.eval (.tmp 132) = .int .u64 nn := hS _ (List.mem_of_getElem? (i := 16) rfl) 132 rfl
      have e133 : Eu (a.eval (.tmp 133)) := hS _ (List.mem_of_getElem? (i := 17) rfl) 133 rfl
      obtain ⟨u133, v133⟩ : ∃ u, a.eval (.tmp 133) = u := ⟨_, rfl⟩
      rw [v133] at e133
      have v6 : a.eval (.tmp 6) = .int .u64 nn := hS _ (List.mem_of_getElem? (i := 18) rfl) 6 rfl
      have e7 : Eu (a.eval (.tmp 7)) := hS _ (List.mem_of_getElem? (i := 19) rfl) 7 rfl
      obtain ⟨u7, v7⟩ : ∃ u, a.eval (.tmp 7) = u := ⟨_, rfl⟩
      rw [v7] at e7
      have ha := act_over [(117, .pointer (some ⟨b, 0, none⟩)), (118, .pointer (some ⟨b, 0, none⟩)), (119, .pointer (some ⟨b, 0, none⟩)), (120, .string s), (121, .pointer (some ⟨b, 0, none⟩)), (122, .pointer (some ⟨b, 0, none⟩)), (123, .pointer (some ⟨b, 1, none⟩)), (124, .int .i64 (k2 : Int)), (125, .pointer (some ⟨b, 0, none⟩)), (126, .pointer (some ⟨b, 0, none⟩)), (127, .pointer (some ⟨b, 1, none⟩)), (128, .int .i64 (k2 : Int)), (129, .int .i64 (k4 : Int)), (130, .string (s.extract k2 k4)), (131, .tuple #[.int .u64 nn, u131]), (116, .tuple #[.int .u64 nn, u116]), (132, .int .u64 nn), (133, u133), (6, .int .u64 nn), (7, u7)] hsz hdef hbase (by kernel_rfl) ⟨v117, v118, v119, v120, v121, v122, v123, v124, v125, v126, v127, v128, v129, v130, v131, v116, v132, v133, v6, v7, trivial⟩
      clear hsz hdef hbase hS v117 v118 v119 v120 v121 v122 v123 v124 v125 v126 v127 v128 v129 v130 v131 v116 v132 v133 v6 v7
      subst ha
      simp only [List.drop, putAll]
      refine wpList_nil ?_
      simp (config := {decide := false}) only [Act.put, List.setIfInBounds_toArray, List.set_cons_zero, List.set_cons_succ]
-- ENDGEN17
      have S6 := S.out.call hB
      have hWz6 := S6.2.2.size
      clear hB
      rcases HF.out with ⟨y, rfl, rfl, hq⟩ | ⟨rfl, hq⟩
      · have H := Lib.hid hq
        have hyb := u8_bound y
        clear hq HF hpu
        subst e7
        go_wp2_with (at_builtin; refine wpList_append_own _ rfl _ _ 123 rfl w.heap.size 5 i0 (.int .u8 0) 1 1 Tryz.underlying123 hi hz0 hz1 hz2 rfl (by decide) _ _ _ rfl (S6.2.1.alloc _) ⟨_, 0, none⟩ 1 1 [.int .u8 (y.toNat : Int)] rfl rfl ?c1 ?c2 ?c3 ?c4 ?c5 ?_)
        case c1 => exact one_new (by simp) _ _
        case c2 => exact one_int _ _
        case c3 => unfold maxLen; omega
        case c4 => omega
        case c5 => simp; omega
        intro v' w2 hown' hgrow _
        have S4 := S6.push hT hgrow hown'
        obtain ⟨vb, vd, rfl⟩ := own_slice hown'
        obtain ⟨q0, q1, q2, q3⟩ := S4.1.facts HB.out.1 HB.out.2.1
        have S5 := Lib.hid (show QSt w b T cs (w2.setCell ⟨b, 1, none⟩ (.int .i64 (k4 : Int))) (xs ++ [y]) _ (k + 4) by rw [show k + 4 = k4 by have := HK.out; have := HK2.out; have := HK4.out; omega]; exact S4.step hT k4)
        clear hown' hgrow S6 S4
        go_wp2_with (fail)
        go_roundg (s.size - (k + 4))
        case measure => have := A.out.1; omega
        case rel => exact ⟨xs ++ [y], k + 4, rfl, H.out, S5.out⟩
      · have H := Lib.hid hq
        have S3 := Lib.hid S6
        clear hq HF hpu S6
        obtain ⟨N, rfl⟩ := e7
        go_wp2_with (fail)
        rw [Exit.noGoto_ret]
        go_ret2
        exact ⟨quo_no H.out S3.out.1, S3.out.2.2⟩
    · obtain ⟨hlt, hx, hdr⟩ := at_one h
      have hii : (k : Int) < s.size := by omega
      obtain ⟨k1, hk1⟩ : ∃ k1, k1 = k + 1 := ⟨_, rfl⟩
      rw [← hk1] at hdr
      obtain ⟨hlt1, hx1, hdr1⟩ := at_one hdr
      have hii1 : (k1 : Int) < s.size := by omega
      have hb11 : ((k1 : Int) == (s.size : Int)) = false := beq_eq_false_iff_ne.2 (by omega)
      have h01 : (0 : Int) ≤ k1 := by omega
      have hne42 : ¬ k1 + 1 + 2 ≤ s.size := by
        have hl := congrArg List.length hdr1
        rw [List.length_drop, size_data] at hl
        omega
      have H := Lib.hid (A.out.2.1.no (by rw [h]; exact quo_short hl2))
      clear h hdr hdr1 hl2
      go_wp2_with (fail)
      go_quiet (fail)
      go_wp2_with (fail)
      go_quiet (fail)
      go_wp2_with (fail)
      refine wp_gen (p := fun W => QSt w b T cs W xs (.slice va xs.length vc) (k + 1)) ((A.out.2.2.drewN _).step hT (k + 1)) ?_
      intro W S1
      rw [← hk1] at S1
      have HK := Lib.hid hk1
      clear hk1
      obtain ⟨x0, x1, y1, z1⟩ := S1.1.facts HB.out.1 HB.out.2.1
      have hWz1 := S1.2.2.size
      have S := Lib.hid S1
      have hQ := fun (q : Nat) => (S1.drewN q).step hT (k1 + 1)
      clear S1
      go_quiet (fail)
      go_wp2_with (fail)
      go_quiet (fail)
      go_wp2_with (fail)
      refine wp_gen (p := fun W => QSt w b T cs W xs (.slice va xs.length vc) (k1 + 1)) (hQ _) ?_
      clear hQ
      intro W2 S2
      obtain ⟨k2, hk2⟩ : ∃ k2, k2 = k1 + 1 := ⟨_, rfl⟩
      rw [← hk2] at S2
      obtain ⟨p0, p1, r1, t1⟩ := S2.1.facts HB.out.1 HB.out.2.1
      have hWz2 := S2.2.2.size
      have S := Lib.hid S2
      obtain ⟨k4, hk4e⟩ : ∃ k4, k4 = k2 + 2 := ⟨_, rfl⟩
      have hadd : (k2 : Int) + 2 = (k4 : Int) := by omega
      have n2 : ¬ k4 ≤ s.size := by omega
      have n4 : ¬ (k4 : Int) ≤ s.size := by omega
      have n5 : (k2 : Int) ≤ 1000000000 := by omega
      have h02 : (0 : Int) ≤ (k2 : Int) := by omega
      clear hk4e
      have HK2 := Lib.hid hk2
      clear S2 hk2 hne42
      go_quiet (fail)
      go_wp2_with (fail)
      go_ret2
      exact ⟨quo_no H.out S.out.1, S.out.2.2.drewN _⟩
    · obtain ⟨hlt, hx, hdr⟩ := at_one h
      have hii : (k : Int) < s.size := by omega
      obtain ⟨k1, hk1⟩ : ∃ k1, k1 = k + 1 := ⟨_, rfl⟩
      rw [← hk1] at hdr
      obtain ⟨hlt1, hx1, hdr1⟩ := at_one hdr
      have hii1 : (k1 : Int) < s.size := by omega
      have hb11 : ((k1 : Int) == (s.size : Int)) = false := beq_eq_false_iff_ne.2 (by omega)
      have h01 : (0 : Int) ≤ k1 := by omega
      have hdb := u8_bound d
      have b1 : ((d.toNat : Int) == 34) = false := beq_eq_false_iff_ne.2 (by have := u8_ne (n := 34) (by decide) h1; omega)
      have b2 : ((d.toNat : Int) == 92) = false := beq_eq_false_iff_ne.2 (by have := u8_ne (n := 92) (by decide) h2; omega)
      have b3 : ((d.toNat : Int) == 120) = false := beq_eq_false_iff_ne.2 (by have := u8_ne (n := 120) (by decide) h3; omega)
      have H := Lib.hid (A.out.2.1.no (by rw [h]; exact quo_other h1 h2 h3))
      clear h hdr hdr1 h1 h2 h3
      go_wp2_with (fail)
      go_quiet (fail)
      go_wp2_with (fail)
      go_quiet (fail)
      go_wp2_with (fail)
      refine wp_gen (p := fun W => QSt w b T cs W xs (.slice va xs.length vc) (k + 1)) ((A.out.2.2.drewN _).step hT (k + 1)) ?_
      intro W S1
      rw [← hk1] at S1
      have HK := Lib.hid hk1
      clear hk1
      obtain ⟨x0, x1, y1, z1⟩ := S1.1.facts HB.out.1 HB.out.2.1
      have hWz1 := S1.2.2.size
      have S := Lib.hid S1
      have hQ := fun (q : Nat) => (S1.drewN q).step hT (k1 + 1)
      clear S1
      go_quiet (fail)
      go_wp2_with (fail)
      go_quiet (fail)
      go_wp2_with (fail)
      refine wp_gen (p := fun W => QSt w b T cs W xs (.slice va xs.length vc) (k1 + 1)) (hQ _) ?_
      clear hQ
      intro W2 S2
      obtain ⟨k2, hk2⟩ : ∃ k2, k2 = k1 + 1 := ⟨_, rfl⟩
      rw [← hk2] at S2
      obtain ⟨p0, p1, r1, t1⟩ := S2.1.facts HB.out.1 HB.out.2.1
      have hWz2 := S2.2.2.size
      have S := Lib.hid S2
      have HK2 := Lib.hid hk2
      clear S2 hk2
      go_quiet (fail)
      go_wp2_with (fail)
      rw [Exit.noGoto_ret]
      go_ret2
      exact ⟨quo_no H.out S.out.1, S.out.2.2.drewN _⟩
end Go.Proofs.YthpcbaamkeiffaaGreatDoor
