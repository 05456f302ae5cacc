/-
  The reference's decimal and parts, walked; no condition.
-/
import Derived.Test.YtlipjagdlpkjpaaDoorFtP
import Derived.Test.YtlipjagdlpkjpaaDoorFlgE
import Derived.Test.YtlipjagdlpkjpaaDoorFtI
import Derived.BigQuiet
import Derived.Laws.DeepStrings4
namespace Go.Proofs.YtlipjagdlpkjpaaDoor
open Go.RowKit
set_option linter.unusedVariables false
set_option linter.unusedSimpArgs false

/-- How the reference writes a number. -/
def decS : Nat → Nat → ByteArray → ByteArray
  | 0, _, o => o
  | m + 1, n, o => if n = 0 ∧ o.size ≠ 0 then o else decS m (n / 10) (⟨#[UInt8.ofNat (48 + n % 10)]⟩ ++ o)
theorem decS_itoa : ∀ n : Fin 1000, decS 4 n.val ⟨#[]⟩ = ⟨(Lib.itoa (n.val : Int)).toArray⟩ := by decide +kernel
theorem decS_end (m : Nat) {o : ByteArray} (h : o.size ≠ 0) : decS m 0 o = o := by
  cases m with
  | zero => rfl
  | succ m => unfold decS; rw [if_pos ⟨rfl, h⟩]
theorem decS_go {m n : Nat} {o : ByteArray} (h : ¬ (n = 0 ∧ o.size ≠ 0)) : decS (m + 1) n o = decS m (n / 10) (⟨#[UInt8.ofNat (48 + n % 10)]⟩ ++ o) := by
  conv => lhs; unfold decS
  rw [if_neg h]
theorem conv_one (W : World) (b : Nat) (hb : b < 256) : (convert 82 9 (.slice (some ⟨W.heap.size, 0, none⟩) 1 1)).run Tryd.prog (W.alloc (.cells #[.int .u8 (b : Int)] 5)) = .ok (.string ⟨#[UInt8.ofNat b]⟩) (W.alloc (.cells #[.int .u8 (b : Int)] 5)) := by
  refine run_convert_bytes_back _ 82 9 5 ⟨W.heap.size, 0, none⟩ 1 [UInt8.ofNat b] Tryd.underlying82 Tryd.underlying5 Tryd.underlying9 ?_
  intro j hj
  have hj0 : j = 0 := by simpa using hj
  subst hj0
  have hc := (Blk.new W 5 #[.int .u8 (b : Int)]).cell' (i := 0) (v := .int .u8 (b : Int)) rfl
  have e : ((UInt8.ofNat b).toNat : Int) = (b : Int) := by simp; omega
  show World.cell? _ ((⟨W.heap.size, 0, none⟩ : Addr).add 0) = some (.int .u8 ((UInt8.ofNat b).toNat : Int))
  rw [e]
  exact hc
def DecRel (w : World) (n0 m : Nat) (nv ov : Value) (wr : World) : Prop :=
  ∃ (n : Nat) (o : ByteArray), nv = .int .i64 (n : Int) ∧ ov = .string o ∧ n < 10 ^ m ∧ m ≤ 4 ∧ (m < 4 → o.size ≠ 0) ∧ o.size ≤ 4 - m ∧ decS 4 n0 ⟨#[]⟩ = decS m n o ∧ Below w.heap.size w wr

set_option maxRecDepth 100000 in
set_option maxHeartbeats 2000000 in
theorem rdecimal (n0 : Nat) (hn0 : n0 < 1000) (w : World) :
    Calls Tryd.prog 53 #[.int .i64 (n0 : Int)] w fun e W' => e = .returned (.string ⟨(Lib.itoa (n0 : Int)).toArray⟩) ∧ Below w.heap.size w W' := by
  rw [← decS_itoa ⟨n0, hn0⟩]
  go_enter Tryd.func53, Tryd.ntmps53
  go_wp2_with (fail)
  go_loopg [0, 3] 4 (fun m nv ov wr => DecRel w n0 m nv ov wr)
  case atStart => exact ⟨n0, ⟨#[]⟩, rfl, rfl, by omega, Nat.le_refl _, fun h => absurd h (by omega), by decide, rfl, Below.refl _ _⟩
  case round =>
    obtain ⟨n, o, rfl, rfl, hlt, hm, ho, hos, hd, hbel⟩ := hrel
    have hbz := hbel.size
    have ho2 : o.size ≤ 100 := by omega
    have hn2 : n < 100000 := by
      have : 10 ^ gk ≤ 10 ^ 4 := Nat.pow_le_pow_right (by decide) hm
      omega
    by_cases hz : n = 0 ∧ o.size ≠ 0
    · obtain ⟨rfl, hz2⟩ := hz
      have H := Lib.hid (And.intro hd (And.intro hbel (decS_end gk hz2)))
      have hne := nonempty_b o (by omega)
      clear hlt ho hos hd hbel hz2
      go_wp2_with (fail)
      go_ret
      exact ⟨by rw [H.out.1, H.out.2.2] <;> rfl, H.out.2.1⟩
    · obtain ⟨m, rfl⟩ : ∃ m, gk = m + 1 := by
        cases gk with
        | zero =>
          have h1 : n = 0 := by simpa using hlt
          exact absurd ⟨h1, ho (by omega)⟩ hz
        | succ m => exact ⟨m, rfl⟩
      have hpow : n / 10 < 10 ^ m := by
        rw [Nat.pow_succ] at hlt
        exact Nat.div_lt_of_lt_mul (by rw [Nat.mul_comm]; exact hlt)
      have hdd := decS_go (m := m) hz
      have q1 : IntKind.u8.wrap (48 + (n : Int) % 10) = 48 + (n : Int) % 10 := by rw [IntKind.wrap_u8]; omega
      have hcv : ∀ W : World, (convert 82 9 (.slice (some ⟨W.heap.size, 0, none⟩) 1 1)).run Tryd.prog (W.alloc (.cells #[.int .u8 (48 + (n : Int) % 10)] 5)) = .ok (.string ⟨#[UInt8.ofNat (48 + n % 10)]⟩) (W.alloc (.cells #[.int .u8 (48 + (n : Int) % 10)] 5)) := fun W => by
        have := conv_one W (48 + n % 10) (by omega)
        rw [show ((48 + n % 10 : Nat) : Int) = 48 + (n : Int) % 10 by omega] at this
        exact this
      obtain ⟨x, hx⟩ : ∃ x : ByteArray, x = ⟨#[UInt8.ofNat (48 + n % 10)]⟩ := ⟨_, rfl⟩
      have hxs : x.size = 1 := by rw [hx]; rfl
      have hxs2 : x.size ≤ 1 := by omega
      rw [← hx] at hcv hdd
      have H := Lib.hid (And.intro hd (And.intro hbel (And.intro hdd (And.intro hpow (And.intro hxs (And.intro hos hlt))))))
      have hcase : 0 < n ∨ (n = 0 ∧ o = ⟨#[]⟩) := by
        rcases Nat.eq_zero_or_pos n with h | h
        · right
          refine ⟨h, empty_of_size ?_⟩
          rcases Nat.eq_zero_or_pos o.size with h2 | h2
          · exact h2
          · exact absurd ⟨h, by omega⟩ hz
        · exact .inl h
      clear hlt ho hos hd hbel hz hpow hdd hx hxs
      rcases hcase with h0 | ⟨rfl, rfl⟩
      · go_wp2_with (fail)
        go_roundg m
        case measure => omega
        case rel =>
          refine ⟨n / 10, x ++ o, by go_num, rfl, H.out.2.2.2.1, by omega, fun _ => ?_, ?_, ?_, H.out.2.1.alloc H.out.2.1.size _⟩
          · rw [ByteArray.size_append, H.out.2.2.2.2.1]; omega
          · rw [ByteArray.size_append, H.out.2.2.2.2.1]; have := H.out.2.2.2.2.2.1; omega
          · rw [H.out.1, H.out.2.2.1]
      · have hcv0 : ∀ W : World, (convert 82 9 (.slice (some ⟨W.heap.size, 0, none⟩) 1 1)).run Tryd.prog (W.alloc (.cells #[.int .u8 48] 5)) = .ok (.string x) (W.alloc (.cells #[.int .u8 48] 5)) := fun W => hcv W
        clear hcv
        go_wp2_with (fail)
        go_roundg m
        case measure => omega
        case rel =>
          refine ⟨0, x, by go_num, ?_, H.out.2.2.2.1, by omega, fun _ => ?_, ?_, ?_, H.out.2.1.alloc H.out.2.1.size _⟩
          · rw [show x ++ (⟨#[]⟩ : ByteArray) = x from by apply str_ext; simp]
          · rw [H.out.2.2.2.2.1]; omega
          · rw [H.out.2.2.2.2.1]; have := H.out.2.2.2.2.2.1; omega
          · rw [H.out.1, H.out.2.2.1, show x ++ (⟨#[]⟩ : ByteArray) = x from by apply str_ext; simp]
theorem rdecimalI (x : Int) (h0 : 0 ≤ x) (h1 : x < 1000) (w : World) :
    Calls Tryd.prog 53 #[.int .i64 x] w fun e W' => e = .returned (.string ⟨(Lib.itoa x).toArray⟩) ∧ Below w.heap.size w W' := by
  obtain ⟨n, rfl⟩ := Int.eq_ofNat_of_zero_le h0
  exact rdecimal n (by omega) w

/-! The parts. -/
def let8S (k : Nat) : ByteArray := ⟨#[([76, 78, 67, 69, 70, 71, 65, 68] : List UInt8).getD k 0]⟩
def part8 (f : Flg) : Nat → List ByteArray
  | 0 => []
  | k + 1 => part8 f k ++ (if get8 f k then [let8S k] else [])
theorem part8_all (f : Flg) : part8 f 8 = wayL f 6 ++ adL f 2 := by
  show ((([] ++ _ ++ _ ++ _ ++ _ ++ _ ++ _) ++ _) ++ _ : List ByteArray) = ([] ++ _ ++ _ ++ _ ++ _ ++ _ ++ _) ++ (([] ++ _) ++ _)
  rw [List.nil_append _, List.append_assoc]
  rfl
theorem part8_len (f : Flg) : ∀ k, (part8 f k).length ≤ k := by
  intro k
  induction k with
  | zero => exact Nat.le_refl _
  | succ k ih =>
    unfold part8
    rw [List.length_append]
    split <;> simp <;> omega
theorem part8_yes {f : Flg} {k : Nat} (h : get8 f k = true) : part8 f (k + 1) = part8 f k ++ [let8S k] := by
  conv => lhs; unfold part8
  rw [if_pos h]
theorem part8_no {f : Flg} {k : Nat} (h : get8 f k = false) : part8 f (k + 1) = part8 f k := by
  conv => lhs; unfold part8
  rw [h]; simp
theorem sub_let8 (k : Nat) (hk : k < 8) (w : World) : (Instr.slice 9 (.string ⟨#[76, 78, 67, 69, 70, 71, 65, 68]⟩) (some (.int .i64 (k : Int))) (some (.int .i64 ((k : Int) + 1))) none).run Tryd.prog w = .ok (.string (let8S k)) w := by
  rw [run_slice_string_if _ _ _ _ _ _ _ Tryd.underlying9, if_pos (by constructor; omega; show (k : Int) + 1 ≤ 8; omega), if_pos (by omega), show ((k : Int) + 1).toNat = k + 1 by omega, show ((k : Int)).toNat = k by omega]
  have h : k = 0 ∨ k = 1 ∨ k = 2 ∨ k = 3 ∨ k = 4 ∨ k = 5 ∨ k = 6 ∨ k = 7 := by omega
  rcases h with rfl | rfl | rfl | rfl | rfl | rfl | rfl | rfl <;> rfl
def boolC (f : Flg) : Array Value := #[.bool f.last, .bool f.next, .bool f.chain, .bool f.fin, .bool f.forb, .bool f.gone, .bool f.app, .bool f.disc]
theorem boolC_at {f : Flg} {k : Nat} (hk : k < 8) : (boolC f)[k]? = some (.bool (get8 f k)) := by
  have h : k = 0 ∨ k = 1 ∨ k = 2 ∨ k = 3 ∨ k = 4 ∨ k = 5 ∨ k = 6 ∨ k = 7 := by omega
  rcases h with rfl | rfl | rfl | rfl | rfl | rfl | rfl | rfl <;> rfl
def PtRel (f : Flg) (w : World) (v i : Value) (wr : World) : Prop :=
  ∃ (k : Nat) (l : List ByteArray), k ≤ 8 ∧ i = .int .i64 (k : Int) ∧ l = part8 f k ∧ wr.ownsRow w.heap.size 9 1 v l.length (l.map .string) ∧ Blk wr w.heap.size 24 #[Value.bool f.last, .bool f.next, .bool f.chain, .bool f.fin, .bool f.forb, .bool f.gone, .bool f.app, .bool f.disc, .int .i64 f.skip, .int .i64 f.red] ∧ Blk wr (w.heap.size + 1) 4 (boolC f) ∧ Below w.heap.size w wr

set_option maxRecDepth 100000 in
set_option maxHeartbeats 4000000 in
theorem rparts (f : Flg) (hs : 0 ≤ f.skip ∧ f.skip < 64) (hr : (codeR f.red || f.red == 0) = true) (w : World) :
    Calls Tryd.prog 39 #[Value.agg #[Value.bool f.last, .bool f.next, .bool f.chain, .bool f.fin, .bool f.forb, .bool f.gone, .bool f.app, .bool f.disc, .int .i64 f.skip, .int .i64 f.red]] w fun e W' => ∃ v, e = .returned v ∧ W'.ownsRow w.heap.size 9 1 v (partsL f).length ((partsL f).map .string) ∧ Below w.heap.size w W' := by
  obtain ⟨i0, hi, hz0, hz1, hz2⟩ := info_parts infoStr
  have HR := Lib.hid (And.intro hs hr)
  clear hs hr
  go_enter Tryd.func39, Tryd.ntmps39
  go_wp2_with (fail)
  go_loopw [3, 5] (fun v i wr => PtRel f w v i wr) (fun _ i _ => 8 - (intOf i).toNat)
  case atStart => exact ⟨0, [], by decide, rfl, rfl, World.ownsRow_nil _ _ _ _, (Blk.new _ _ _).alloc _, blk_at (by simp), gr_alloc (gr_alloc (Below.refl _ _) _) _⟩
  case round =>
    obtain ⟨k, l, hk, rfl, hl, hown, hblk, hbb, hbel⟩ := hrel
    have hle : l.length ≤ 8 := by rw [hl]; exact Nat.le_trans (part8_len f k) hk
    obtain ⟨va, vc, rfl⟩ := own_slice hown
    have hsz := hbel.size
    by_cases hlt : k < 8
    · have hsub := sub_let8 k hlt
      have hc := hbb.cell' (boolC_at hlt)
      have hlb := hbb.lt
      obtain ⟨b, hb⟩ : ∃ b, b = get8 f k := ⟨_, rfl⟩
      rw [← hb] at hc
      have H := Lib.hid (And.intro hl (And.intro hown (And.intro hblk (And.intro hbb (And.intro hbel hb)))))
      clear hl hblk hbb hbel hb
      cases b with
      | false =>
        clear hown
        go_wp2_with (fail)
        exact ⟨⟨k + 1, l, by omega, by go_num, by rw [part8_no H.out.2.2.2.2.2.symm]; exact H.out.1, H.out.2.1, H.out.2.2.1, H.out.2.2.2.1, H.out.2.2.2.2.1⟩, by simp [intOf]; omega⟩
      | true =>
        go_wp2_with (at_builtin; refine wpList_append_own _ rfl _ _ 40 rfl w.heap.size 9 i0 (.string ⟨#[]⟩) 1 16 Tryd.underlying40 hi hz0 hz1 hz2 rfl (by decide) _ _ _ rfl (hown.alloc _) ⟨wr.heap.size, 0, none⟩ 1 1 [.string (let8S k)] rfl rfl ?c1 ?c2 ?c3 ?c4 ?c5 ?_)
        case c1 => exact one_new rfl _ _
        case c2 => exact one_str _
        case c3 => unfold maxLen; omega
        case c4 => omega
        case c5 => simp; omega
        intro v' w2 hown' hgrow _
        have ha := H.out.2.2.1.alloc (.cells #[.string (let8S k)] 9)
        have hb2 := H.out.2.2.2.1.alloc (.cells #[.string (let8S k)] 9)
        have ha3 := ha.grown hgrow (own_blk_ne (hown.alloc _) ha (by decide))
        have hb3 := hb2.grown hgrow (own_blk_ne (hown.alloc _) hb2 (by decide))
        have hc3 := (H.out.2.2.2.2.1.alloc hsz (.cells #[.string (let8S k)] 9)).grown hgrow (by simp; omega) (fun q hq => (hown.lt q hq).1)
        have K := Lib.hid (And.intro hown' (And.intro ha3 (And.intro hb3 hc3)))
        clear ha hb2 ha3 hb3 hc3
        clear hown hown' hgrow hc
        go_wp2_with (fail)
        refine ⟨⟨k + 1, l ++ [let8S k], by omega, by go_num, by rw [part8_yes H.out.2.2.2.2.2.symm, ← H.out.1], ?_, K.out.2.1, K.out.2.2.1, K.out.2.2.2⟩, by simp [intOf]; omega⟩
        rw [List.length_append, List.map_append]
        exact K.out.1
    · obtain rfl : k = 8 := by omega
      have hp : partsL f = l ++ (skipL f ++ redL f) := by rw [hl, part8_all]; rfl
      have k8 : wr.cell? ⟨w.heap.size, 8, none⟩ = some (.int .i64 f.skip) := hblk.cell' (i := 8) rfl
      have k9 : wr.cell? ⟨w.heap.size, 9, none⟩ = some (.int .i64 f.red) := hblk.cell' (i := 9) rfl
      have hlt8 := hblk.lt
      have H := Lib.hid (And.intro hp (And.intro hblk hbel))
      clear hl hp hblk hbb hbel
      by_cases hskip : f.skip = 0
      · have hsl : skipL f = [] := by unfold skipL; rw [if_pos hskip]
        have qs : (f.skip != 0) = false := by simp; exact hskip
        have HS := Lib.hid (And.intro hskip hsl)
        clear hskip hsl
        by_cases hred : f.red = 0
        · have hrl : redL f = [] := by unfold redL; rw [if_pos hred]
          have qr : (f.red != 0) = false := by simp; exact hred
          have HQ := Lib.hid (And.intro hown hrl)
          clear hred hrl hown
          go_wp2_with (fail)
          go_ret
          exact ⟨_, rfl, by rw [H.out.1, HS.out.2, HQ.out.2, List.append_nil, List.append_nil]; exact HQ.out.1, H.out.2.2⟩
        · have H2 : Hid (partsL f = l ++ redL f ∧ Blk wr w.heap.size 24 #[Value.bool f.last, .bool f.next, .bool f.chain, .bool f.fin, .bool f.forb, .bool f.gone, .bool f.app, .bool f.disc, .int .i64 f.skip, .int .i64 f.red] ∧ Below w.heap.size w wr) := Lib.hid ⟨by rw [H.out.1, HS.out.2, List.nil_append], H.out.2⟩
          have hrl : redL f = [⟨#[82, 61]⟩ ++ ⟨(Lib.itoa f.red).toArray⟩] := by unfold redL; rw [if_neg hred]
          have qr : (f.red != 0) = true := by simp; exact hred
          have hcr : codeR f.red = true := by have := HR.out.2; rw [beq_eq_false_iff_ne.2 hred] at this; simpa using this
          have hz := itoa_red f.red hcr
          have hb2 := red_bounds f.red hcr
          have hb3 : 0 ≤ f.red := by omega
          have hb4 : f.red < 1000 := by omega
          have HQ := Lib.hid (And.intro hown hrl)
          clear hred hrl hown hcr
          go_wp2_with (fail)
          refine (rdecimalI f.red hb3 hb4 _).mono ?_
          rintro e W5 ⟨rfl, h5⟩
          obtain ⟨ss, hss⟩ : ∃ ss : ByteArray, ss = ⟨(Lib.itoa f.red).toArray⟩ := ⟨_, rfl⟩
          rw [← hss] at hz ⊢
          have hown5 := own_below HQ.out.1 h5 (Nat.le_refl _)
          have hbl5 := H2.out.2.1.call h5
          have hbel5 := gr_call H2.out.2.2 h5
          have hsz5 := hbel5.size
          have HX := Lib.hid (And.intro hss (And.intro HQ.out.2 (And.intro hbl5 hbel5)))
          clear hss h5 hbl5 hbel5
          go_wp2_with (at_builtin; refine wpList_append_own _ rfl _ _ 40 rfl w.heap.size 9 i0 (.string ⟨#[]⟩) 1 16 Tryd.underlying40 hi hz0 hz1 hz2 rfl (by decide) _ _ _ rfl (hown5.alloc _) ⟨W5.heap.size, 0, none⟩ 1 1 [.string (⟨#[82, 61]⟩ ++ ss)] rfl rfl ?r1 ?r2 ?r3 ?r4 ?r5 ?_)
          case r1 => exact one_new rfl _ _
          case r2 => exact one_str _
          case r3 => unfold maxLen; omega
          case r4 => omega
          case r5 => simp; omega
          intro v' w2 hown' hgrow _
          have hbel6 := (HX.out.2.2.2.alloc hsz5 (.cells #[.string (⟨#[82, 61]⟩ ++ ss)] 9)).grown hgrow (by simp; omega) (fun q hq => (hown5.lt q hq).1)
          have K := Lib.hid (And.intro hown' hbel6)
          clear hown5 hown' hgrow hbel6
          go_wp2_with (fail)
          go_ret
          refine ⟨v', rfl, ?_, K.out.2⟩
          rw [H2.out.1, HX.out.2.1, ← HX.out.1, List.length_append, List.map_append]
          exact K.out.1
      · have hsl : skipL f = [⟨#[83, 61]⟩ ++ ⟨(Lib.itoa f.skip).toArray⟩] := by unfold skipL; rw [if_neg hskip]
        have qs : (f.skip != 0) = true := by simp; exact hskip
        have hz := itoa_skip f.skip HR.out.1.1 HR.out.1.2
        have hb3 : 0 ≤ f.skip := HR.out.1.1
        have hb4 : f.skip < 1000 := by have := HR.out.1.2; omega
        have HS := Lib.hid (And.intro hsl hown)
        clear hskip hsl hown
        go_wp2_with (fail)
        refine (rdecimalI f.skip hb3 hb4 _).mono ?_
        rintro e W4 ⟨rfl, h4⟩
        obtain ⟨sk, hss⟩ : ∃ sk : ByteArray, sk = ⟨(Lib.itoa f.skip).toArray⟩ := ⟨_, rfl⟩
        rw [← hss] at hz ⊢
        have hown5 := own_below HS.out.2 h4 (Nat.le_refl _)
        have hsz5 := (gr_call H.out.2.2 h4).size
        have HX := Lib.hid (And.intro hss (And.intro (H.out.2.1.call h4) (gr_call H.out.2.2 h4)))
        clear hss h4 k8 k9 hlt8
        go_wp2_with (at_builtin; refine wpList_append_own _ rfl _ _ 40 rfl w.heap.size 9 i0 (.string ⟨#[]⟩) 1 16 Tryd.underlying40 hi hz0 hz1 hz2 rfl (by decide) _ _ _ rfl (hown5.alloc _) ⟨W4.heap.size, 0, none⟩ 1 1 [.string (⟨#[83, 61]⟩ ++ sk)] rfl rfl ?s1 ?s2 ?s3 ?s4 ?s5 ?_)
        case s1 => exact one_new rfl _ _
        case s2 => exact one_str _
        case s3 => unfold maxLen; omega
        case s4 => omega
        case s5 => simp; omega
        intro v' w2 hown' hgrow _
        have hbel6 := (HX.out.2.2.alloc hsz5 (.cells #[.string (⟨#[83, 61]⟩ ++ sk)] 9)).grown hgrow (by simp; omega) (fun q hq => (hown5.lt q hq).1)
        have hbA := HX.out.2.1.alloc (.cells #[.string (⟨#[83, 61]⟩ ++ sk)] 9)
        have hbB := hbA.grown hgrow (own_blk_ne (hown5.alloc _) hbA (by decide))
        obtain ⟨l2, hl2⟩ : ∃ l2, l2 = l ++ [⟨#[83, 61]⟩ ++ sk] := ⟨_, rfl⟩
        have hle2 : l2.length ≤ 9 := by rw [hl2, List.length_append]; show l.length + 1 ≤ 9; omega
        have hown : w2.ownsRow w.heap.size 9 1 v' l2.length (l2.map .string) := by
          rw [hl2, List.length_append, List.map_append]; exact hown'
        have hlen2 : l2.length = l.length + 1 := by rw [hl2, List.length_append]; rfl
        have hv' : ∃ a c, v' = .slice a l2.length c := own_slice hown
        have H2 : Hid (partsL f = l2 ++ redL f ∧ Blk w2 w.heap.size 24 #[Value.bool f.last, .bool f.next, .bool f.chain, .bool f.fin, .bool f.forb, .bool f.gone, .bool f.app, .bool f.disc, .int .i64 f.skip, .int .i64 f.red] ∧ Below w.heap.size w w2) := Lib.hid ⟨by rw [H.out.1, HS.out.1, hl2, ← HX.out.1, List.append_assoc], hbB, hbel6⟩
        obtain ⟨va2, vc2, rfl⟩ := hv'
        have k9 : w2.cell? ⟨w.heap.size, 9, none⟩ = some (.int .i64 f.red) := hbB.cell' (i := 9) rfl
        have hlt9 := hbB.lt
        clear hown5 hown' hgrow hbel6 hbA hbB hl2 hlen2 hz hsz5
        by_cases hred : f.red = 0
        · have hrl : redL f = [] := by unfold redL; rw [if_pos hred]
          have qr : (f.red != 0) = false := by simp; exact hred
          have HQ := Lib.hid (And.intro hown hrl)
          clear hred hrl hown
          go_wp2_with (fail)
          go_ret
          exact ⟨_, rfl, by rw [H2.out.1, HQ.out.2, List.append_nil]; exact HQ.out.1, H2.out.2.2⟩
        · have hrl : redL f = [⟨#[82, 61]⟩ ++ ⟨(Lib.itoa f.red).toArray⟩] := by unfold redL; rw [if_neg hred]
          have qr : (f.red != 0) = true := by simp; exact hred
          have hcr : codeR f.red = true := by have := HR.out.2; rw [beq_eq_false_iff_ne.2 hred] at this; simpa using this
          have hz := itoa_red f.red hcr
          have hb2 := red_bounds f.red hcr
          have hb3 : 0 ≤ f.red := by omega
          have hb4 : f.red < 1000 := by omega
          have HQ := Lib.hid (And.intro hown hrl)
          clear hred hrl hown hcr
          go_wp2_with (fail)
          refine (rdecimalI f.red hb3 hb4 _).mono ?_
          rintro e W5 ⟨rfl, h5⟩
          obtain ⟨ss, hss⟩ : ∃ ss : ByteArray, ss = ⟨(Lib.itoa f.red).toArray⟩ := ⟨_, rfl⟩
          rw [← hss] at hz ⊢
          have hown5 := own_below HQ.out.1 h5 (Nat.le_refl _)
          have hbl5 := H2.out.2.1.call h5
          have hbel5 := gr_call H2.out.2.2 h5
          have hsz5 := hbel5.size
          have HX := Lib.hid (And.intro hss (And.intro HQ.out.2 (And.intro hbl5 hbel5)))
          clear hss h5 hbl5 hbel5
          go_wp2_with (at_builtin; refine wpList_append_own _ rfl _ _ 40 rfl w.heap.size 9 i0 (.string ⟨#[]⟩) 1 16 Tryd.underlying40 hi hz0 hz1 hz2 rfl (by decide) _ _ _ rfl (hown5.alloc _) ⟨W5.heap.size, 0, none⟩ 1 1 [.string (⟨#[82, 61]⟩ ++ ss)] rfl rfl ?t1 ?t2 ?t3 ?t4 ?t5 ?_)
          case t1 => exact one_new rfl _ _
          case t2 => exact one_str _
          case t3 => unfold maxLen; omega
          case t4 => omega
          case t5 => simp; omega
          intro v' w2 hown' hgrow _
          have hbel6 := (HX.out.2.2.2.alloc hsz5 (.cells #[.string (⟨#[82, 61]⟩ ++ ss)] 9)).grown hgrow (by simp; omega) (fun q hq => (hown5.lt q hq).1)
          have K := Lib.hid (And.intro hown' hbel6)
          clear hown5 hown' hgrow hbel6
          go_wp2_with (fail)
          go_ret
          refine ⟨v', rfl, ?_, K.out.2⟩
          rw [H2.out.1, HX.out.2.1, ← HX.out.1, List.length_append, List.map_append]
          exact K.out.1
end Go.Proofs.YtlipjagdlpkjpaaDoor
