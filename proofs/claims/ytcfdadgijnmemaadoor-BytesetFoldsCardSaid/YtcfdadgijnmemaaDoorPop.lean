/-
  How many bits a number has, by Go's own way (math/bits.OnesCount64): plain; no program is in sight; no condition.
-/
import Derived.Test.YtcfdadgijnmemaaDoorBase
namespace Go.Proofs.YtcfdadgijnmemaaDoor
set_option linter.unusedVariables false

/-- How many of the first n bits are set. -/
def popN (x : Nat) : Nat → Nat
  | 0 => 0
  | n + 1 => popN x n + (x.testBit n).toNat

theorem and_split (y b M c : Nat) (hb : b < 256) (hc : c < 256) : (256 * y + b) &&& (256 * M + c) = 256 * (y &&& M) + (b &&& c) := by
  have hbc : b &&& c < 2 ^ 8 := Nat.and_lt_two_pow _ hc
  apply Nat.eq_of_testBit_eq
  intro k
  have e : (256 : Nat) = 2 ^ 8 := rfl
  rw [Nat.testBit_and, e, Nat.testBit_two_pow_mul_add _ (by omega), Nat.testBit_two_pow_mul_add _ (by omega), Nat.testBit_two_pow_mul_add _ hbc]
  split <;> rw [Nat.testBit_and]

/-- A number by its bytes, the lowest first. -/
def ofB : List Nat → Nat
  | [] => 0
  | b :: t => 256 * ofB t + b
/-- A mask that is the same in each byte. -/
def maskB (c : Nat) : Nat → Nat
  | 0 => 0
  | n + 1 => 256 * maskB c n + c

def f1 (b : Nat) : Nat := (b / 2 &&& 85) + (b &&& 85)
def f2 (b : Nat) : Nat := (b / 4 &&& 51) + (b &&& 51)
def f3 (b : Nat) : Nat := (b / 16 + b) &&& 15
theorem low1 : ∀ e : Nat, e < 2 → ∀ b : Nat, b < 256 → (128 * e + b / 2) &&& 85 = b / 2 &&& 85 := by decide +kernel
theorem low2 : ∀ e : Nat, e < 4 → ∀ b : Nat, b < 256 → (64 * e + b / 4) &&& 51 = b / 4 &&& 51 := by decide +kernel
theorem f1_lt : ∀ b : Nat, b < 256 → f1 b < 256 := by decide +kernel
theorem f2_lt : ∀ b : Nat, b < 256 → f2 (f1 b) < 256 ∧ f2 (f1 b) % 16 ≤ 4 ∧ f2 (f1 b) / 16 ≤ 4 := by decide +kernel
theorem f3_le : ∀ b : Nat, b < 256 → f3 (f2 (f1 b)) ≤ 8 := by decide +kernel
theorem f3_low : ∀ e : Nat, e < 5 → ∀ b : Nat, b < 256 → b % 16 ≤ 4 → b / 16 ≤ 4 → (16 * e + (b / 16 + b)) &&& 15 = f3 b := by decide +kernel

theorem step1 (l : List Nat) (h : ∀ b ∈ l, b < 256) : (ofB l / 2 &&& maskB 85 l.length) + (ofB l &&& maskB 85 l.length) = ofB (l.map f1) := by
  induction l with
  | nil => rfl
  | cons b t ih =>
    have hb := h b (by simp)
    have ih := ih (fun c hc => h c (by simp [hc]))
    have hl := low1 (ofB t % 2) (by omega) b hb
    show ((256 * ofB t + b) / 2 &&& (256 * maskB 85 t.length + 85)) + ((256 * ofB t + b) &&& (256 * maskB 85 t.length + 85)) = 256 * ofB (t.map f1) + f1 b
    rw [show (256 * ofB t + b) / 2 = 256 * (ofB t / 2) + (128 * (ofB t % 2) + b / 2) by omega, and_split _ _ _ _ (by omega) (by decide), and_split _ _ _ _ hb (by decide), hl, ← ih]
    unfold f1; omega
theorem step2 (l : List Nat) (h : ∀ b ∈ l, b < 256) : (ofB l / 4 &&& maskB 51 l.length) + (ofB l &&& maskB 51 l.length) = ofB (l.map f2) := by
  induction l with
  | nil => rfl
  | cons b t ih =>
    have hb := h b (by simp)
    have ih := ih (fun c hc => h c (by simp [hc]))
    have hl := low2 (ofB t % 4) (by omega) b hb
    show ((256 * ofB t + b) / 4 &&& (256 * maskB 51 t.length + 51)) + ((256 * ofB t + b) &&& (256 * maskB 51 t.length + 51)) = 256 * ofB (t.map f2) + f2 b
    rw [show (256 * ofB t + b) / 4 = 256 * (ofB t / 4) + (64 * (ofB t % 4) + b / 4) by omega, and_split _ _ _ _ (by omega) (by decide), and_split _ _ _ _ hb (by decide), hl, ← ih]
    unfold f2; omega
theorem ofB_low (l : List Nat) (h : ∀ b ∈ l, b < 256 ∧ b % 16 ≤ 4 ∧ b / 16 ≤ 4) : ofB l % 16 < 5 := by
  cases l with
  | nil => simp [ofB]
  | cons b t => have := h b (by simp); show (256 * ofB t + b) % 16 < 5; omega
theorem step3 (l : List Nat) (h : ∀ b ∈ l, b < 256 ∧ b % 16 ≤ 4 ∧ b / 16 ≤ 4) : (ofB l / 16 + ofB l) &&& maskB 15 l.length = ofB (l.map f3) := by
  induction l with
  | nil => rfl
  | cons b t ih =>
    obtain ⟨hb, hb1, hb2⟩ := h b (by simp)
    have ht : ∀ c ∈ t, c < 256 ∧ c % 16 ≤ 4 ∧ c / 16 ≤ 4 := fun c hc => h c (by simp [hc])
    have ih := ih ht
    have he := ofB_low t ht
    have hl := f3_low (ofB t % 16) he b hb hb1 hb2
    show ((256 * ofB t + b) / 16 + (256 * ofB t + b)) &&& (256 * maskB 15 t.length + 15) = 256 * ofB (t.map f3) + f3 b
    rw [show (256 * ofB t + b) / 16 + (256 * ofB t + b) = 256 * (ofB t / 16 + ofB t) + (16 * (ofB t % 16) + (b / 16 + b)) by omega, and_split _ _ _ _ (by omega) (by decide), hl, ih]

/-- The bits of a number by its bytes. -/
def pop8 (b : Nat) : Nat := popN b 8
theorem pop8_at : ∀ b : Nat, b < 256 → f3 (f2 (f1 b)) = pop8 b := by decide +kernel
theorem popN_add (x n m : Nat) : popN x (n + m) = popN x n + popN (x / 2 ^ n) m := by
  induction m with
  | zero => simp [popN]
  | succ m ih =>
    rw [← Nat.add_assoc]
    show popN x (n + m) + _ = popN x n + (popN (x / 2 ^ n) m + _)
    rw [ih, Nat.testBit_div_two_pow, Nat.add_assoc, Nat.add_comm m n]
theorem popN_low (x y n : Nat) : popN (2 ^ n * y + x % 2 ^ n) n = popN x n := by
  have key : ∀ m, m ≤ n → popN (2 ^ n * y + x % 2 ^ n) m = popN x m := by
    intro m
    induction m with
    | zero => intro _; rfl
    | succ m ih =>
      intro hm
      show popN _ m + _ = popN _ m + _
      rw [ih (by omega), Nat.testBit_two_pow_mul_add _ (Nat.mod_lt _ (Nat.two_pow_pos _)), if_pos (by omega), Nat.testBit_mod_two_pow, decide_eq_true (by omega : m < n), Bool.true_and]
  exact key n (Nat.le_refl _)
/-- The eight bytes of a word. -/
def bytes8 (x : Nat) : List Nat := [x % 256, x / 256 % 256, x / 65536 % 256, x / 16777216 % 256, x / 4294967296 % 256, x / 1099511627776 % 256, x / 281474976710656 % 256, x / 72057594037927936 % 256]
theorem ofB_bytes8 (x : Nat) (hx : x < 18446744073709551616) : ofB (bytes8 x) = x := by
  simp only [bytes8, ofB]; omega
theorem pop_mod (x n : Nat) : popN (x % 2 ^ n) n = popN x n := by have := popN_low x 0 n; simpa using this
theorem pop64 (x : Nat) : popN x 64 = pop8 (x % 256) + pop8 (x / 256 % 256) + pop8 (x / 65536 % 256) + pop8 (x / 16777216 % 256) + pop8 (x / 4294967296 % 256) + pop8 (x / 1099511627776 % 256) + pop8 (x / 281474976710656 % 256) + pop8 (x / 72057594037927936 % 256) := by
  have hm : ∀ y, pop8 (y % 256) = popN y 8 := fun y => pop_mod y 8
  simp only [hm]
  rw [show (64 : Nat) = 8 + (8 + (8 + (8 + (8 + (8 + (8 + 8)))))) from rfl]
  simp only [popN_add, Nat.div_div_eq_div_mul, Nat.reducePow, Nat.reduceMul]
  omega
theorem maskB_8 : maskB 85 8 = 6148914691236517205 ∧ maskB 51 8 = 3689348814741910323 ∧ maskB 15 8 = 1085102592571150095 := by decide +kernel
theorem div_of (q u r : Nat) (hr : r < q) : (q * u + r) / q = u := by
  rw [Nat.mul_add_div (by omega), Nat.div_eq_of_lt hr]; omega
theorem mod_of (u r : Nat) (hr : r ≤ 64) : (256 * u + r) % 128 = r := by omega
theorem lst {t u b B : Nat} (e : t = 256 * u + b) (h : b ≤ 8) (l : u ≤ B) : t ≤ 256 * B + 8 := by omega
theorem qd {c d t1 t2 t3 b0 b1 b2 : Nat} (hc : c = 256 * t1 + b0) (hd : d = c + t1) (e1 : t1 = 256 * t2 + b1) (e2 : t2 = 256 * t3 + b2) : d = 65536 * (t2 + t3) + (256 * (b1 + b2) + (b0 + b1)) := by omega
theorem qe {c d e t1 t2 t3 t4 t5 t6 b0 b1 b2 b3 b4 b5 b6 b7 : Nat} (hc : c = 256 * t1 + b0) (hd : d = c + t1) (he : e = d + (t2 + t3)) (e1 : t1 = 256 * t2 + b1) (e2 : t2 = 256 * t3 + b2) (e3 : t3 = 256 * t4 + b3) (e4 : t4 = 256 * t5 + b4) (e5 : t5 = 256 * t6 + b5) (e6 : t6 = 256 * b7 + b6) :
    e = 4294967296 * (t4 + t5 + t6 + b7) + (16777216 * (b3 + b4 + b5 + b6) + 65536 * (b2 + b3 + b4 + b5) + 256 * (b1 + b2 + b3 + b4) + (b0 + b1 + b2 + b3)) := by omega
theorem qf {c d e f t1 t2 t3 t4 t5 t6 b0 b1 b2 b3 b4 b5 b6 b7 : Nat} (hc : c = 256 * t1 + b0) (hd : d = c + t1) (he : e = d + (t2 + t3)) (hf : f = e + (t4 + t5 + t6 + b7)) (e1 : t1 = 256 * t2 + b1) (e2 : t2 = 256 * t3 + b2) (e3 : t3 = 256 * t4 + b3) (e4 : t4 = 256 * t5 + b4) (e5 : t5 = 256 * t6 + b5) (e6 : t6 = 256 * b7 + b6) :
    f = 256 * (t1 + t2 + t3 + t4 + t5 + t6 + b7) + (b0 + b1 + b2 + b3 + b4 + b5 + b6 + b7) := by omega
theorem bnd {a b c A B : Nat} (h : a = b + c) (hb : b ≤ A) (hc : c ≤ B) : a ≤ A + B := by omega
theorem below64 {a A : Nat} (h : a ≤ A) (hA : A < 9223372036854775808) : a < 9223372036854775808 := Nat.lt_of_le_of_lt h hA
theorem sm2 {a b : Nat} (ha : a ≤ 8) (hb : b ≤ 8) : a + b ≤ 16 := by omega
theorem rd {b0 b1 b2 : Nat} (h0 : b0 ≤ 8) (h1 : b1 ≤ 8) (h2 : b2 ≤ 8) : 256 * (b1 + b2) + (b0 + b1) < 65536 := by omega
theorem re_ {b0 b1 b2 b3 b4 b5 b6 : Nat} (h0 : b0 ≤ 8) (h1 : b1 ≤ 8) (h2 : b2 ≤ 8) (h3 : b3 ≤ 8) (h4 : b4 ≤ 8) (h5 : b5 ≤ 8) (h6 : b6 ≤ 8) : 16777216 * (b3 + b4 + b5 + b6) + 65536 * (b2 + b3 + b4 + b5) + 256 * (b1 + b2 + b3 + b4) + (b0 + b1 + b2 + b3) < 4294967296 := by omega
theorem rf {b0 b1 b2 b3 b4 b5 b6 b7 : Nat} (h0 : b0 ≤ 8) (h1 : b1 ≤ 8) (h2 : b2 ≤ 8) (h3 : b3 ≤ 8) (h4 : b4 ≤ 8) (h5 : b5 ≤ 8) (h6 : b6 ≤ 8) (h7 : b7 ≤ 8) : b0 + b1 + b2 + b3 + b4 + b5 + b6 + b7 ≤ 64 := by omega
theorem sum8 (b0 b1 b2 b3 b4 b5 b6 b7 c d e f : Nat) (h0 : b0 ≤ 8) (h1 : b1 ≤ 8) (h2 : b2 ≤ 8) (h3 : b3 ≤ 8) (h4 : b4 ≤ 8) (h5 : b5 ≤ 8) (h6 : b6 ≤ 8) (h7 : b7 ≤ 8) (hc : c = ofB [b0, b1, b2, b3, b4, b5, b6, b7])
    (hd : d = c + c / 256) (he : e = d + d / 65536) (hf : f = e + e / 4294967296) : f % 128 = b0 + b1 + b2 + b3 + b4 + b5 + b6 + b7 ∧ c < 9223372036854775808 ∧ d < 9223372036854775808 ∧ e < 9223372036854775808 ∧ f < 9223372036854775808 := by
  have e0 : ofB [b0, b1, b2, b3, b4, b5, b6, b7] = 256 * ofB [b1, b2, b3, b4, b5, b6, b7] + b0 := rfl
  have e1 : ofB [b1, b2, b3, b4, b5, b6, b7] = 256 * ofB [b2, b3, b4, b5, b6, b7] + b1 := rfl
  have e2 : ofB [b2, b3, b4, b5, b6, b7] = 256 * ofB [b3, b4, b5, b6, b7] + b2 := rfl
  have e3 : ofB [b3, b4, b5, b6, b7] = 256 * ofB [b4, b5, b6, b7] + b3 := rfl
  have e4 : ofB [b4, b5, b6, b7] = 256 * ofB [b5, b6, b7] + b4 := rfl
  have e5 : ofB [b5, b6, b7] = 256 * ofB [b6, b7] + b5 := rfl
  have e6 : ofB [b6, b7] = 256 * ofB [b7] + b6 := rfl
  have e7 : ofB [b7] = b7 := by show 256 * 0 + b7 = b7; omega
  rw [e0] at hc
  generalize ofB [b1, b2, b3, b4, b5, b6, b7] = t1 at hc e1
  generalize ofB [b2, b3, b4, b5, b6, b7] = t2 at e1 e2
  generalize ofB [b3, b4, b5, b6, b7] = t3 at e2 e3
  generalize ofB [b4, b5, b6, b7] = t4 at e3 e4
  generalize ofB [b5, b6, b7] = t5 at e4 e5
  generalize ofB [b6, b7] = t6 at e5 e6
  rw [e7] at e6
  have l6 : t6 ≤ 2056 := lst e6 h6 h7
  have l5 : t5 ≤ 526344 := lst e5 h5 l6
  have l4 : t4 ≤ 134744072 := lst e4 h4 l5
  have l3 : t3 ≤ 34494482440 := lst e3 h3 l4
  have l2 : t2 ≤ 8830587504648 := lst e2 h2 l3
  have l1 : t1 ≤ 2260630401189896 := lst e1 h1 l2
  have lc : c ≤ 578721382704613384 := lst hc h0 l1
  have hc1 : c / 256 = t1 := by rw [hc]; exact div_of _ _ _ (Nat.lt_of_le_of_lt h0 (by decide))
  rw [hc1] at hd
  have ld := bnd hd lc l1
  have hd1 : d / 65536 = t2 + t3 := by rw [qd hc hd e1 e2]; exact div_of _ _ _ (rd h0 h1 h2)
  rw [hd1] at he
  have le := bnd he ld (Nat.add_le_add l2 l3)
  have he1 : e / 4294967296 = t4 + t5 + t6 + b7 := by rw [qe hc hd he e1 e2 e3 e4 e5 e6]; exact div_of _ _ _ (re_ h0 h1 h2 h3 h4 h5 h6)
  rw [he1] at hf
  have lf := bnd hf le (Nat.add_le_add (Nat.add_le_add (Nat.add_le_add l4 l5) l6) h7)
  refine ⟨?_, below64 lc (by decide), below64 ld (by decide), below64 le (by decide), below64 lf (by decide)⟩
  rw [qf hc hd he hf e1 e2 e3 e4 e5 e6]
  exact mod_of _ _ (rf h0 h1 h2 h3 h4 h5 h6 h7)
/-- Go's way. -/
theorem swar (x : Nat) (hx : x < 18446744073709551616) (a b c d e f : Nat) (ha : a = (x / 2 &&& 6148914691236517205) + (x &&& 6148914691236517205)) (hb : b = (a / 4 &&& 3689348814741910323) + (a &&& 3689348814741910323))
    (hc : c = (b / 16 + b) &&& 1085102592571150095) (hd : d = c + c / 256) (he : e = d + d / 65536) (hf : f = e + e / 4294967296) :
    f % 128 = popN x 64 ∧ a < 18446744073709551616 ∧ b < 9223372036854775808 ∧ c < 9223372036854775808 ∧ d < 9223372036854775808 ∧ e < 9223372036854775808 ∧ f < 9223372036854775808 := by
  have hl : ∀ y ∈ bytes8 x, y < 256 := by
    intro y hy
    simp only [bytes8, List.mem_cons, List.not_mem_nil, or_false] at hy
    omega
  have h1 := step1 (bytes8 x) hl
  have h2 := step2 ((bytes8 x).map f1) (by intro y hy; obtain ⟨z, hz, rfl⟩ := List.mem_map.1 hy; exact f1_lt z (hl z hz))
  have h3 := step3 (((bytes8 x).map f1).map f2) (by
    intro y hy
    obtain ⟨z, hz, rfl⟩ := List.mem_map.1 hy
    obtain ⟨u, hu, rfl⟩ := List.mem_map.1 hz
    exact f2_lt u (hl u hu))
  rw [ofB_bytes8 x hx] at h1
  rw [show (bytes8 x).length = 8 from rfl, maskB_8.1] at h1
  rw [show ((bytes8 x).map f1).length = 8 from rfl, maskB_8.2.1] at h2
  rw [show (((bytes8 x).map f1).map f2).length = 8 from rfl, maskB_8.2.2] at h3
  rw [← h1, ← ha] at h2
  rw [← h2, ← hb, ← hc] at h3
  have g : ∀ y, y < 256 → f3 (f2 (f1 y)) ≤ 8 := f3_le
  have l0 := hl (x % 256) (by simp [bytes8])
  have e3 : (((bytes8 x).map f1).map f2).map f3 = [pop8 (x % 256), pop8 (x / 256 % 256), pop8 (x / 65536 % 256), pop8 (x / 16777216 % 256), pop8 (x / 4294967296 % 256), pop8 (x / 1099511627776 % 256), pop8 (x / 281474976710656 % 256), pop8 (x / 72057594037927936 % 256)] := by
    simp only [bytes8, List.map_cons, List.map_nil]
    rw [pop8_at _ (by omega), pop8_at _ (by omega), pop8_at _ (by omega), pop8_at _ (by omega), pop8_at _ (by omega), pop8_at _ (by omega), pop8_at _ (by omega), pop8_at _ (by omega)]
  have p8 : ∀ y, y < 256 → pop8 y ≤ 8 := fun y hy => by rw [← pop8_at y hy]; exact f3_le y hy
  rw [e3] at h3
  obtain ⟨r1, r2, r3, r4, r5⟩ := sum8 _ _ _ _ _ _ _ _ c d e f (p8 _ (by omega)) (p8 _ (by omega)) (p8 _ (by omega)) (p8 _ (by omega)) (p8 _ (by omega)) (p8 _ (by omega)) (p8 _ (by omega)) (p8 _ (by omega)) h3 hd he hf
  have a1 : a < 18446744073709551616 := by
    have u1 : x / 2 &&& 6148914691236517205 ≤ 6148914691236517205 := Nat.and_le_right
    have u2 : x &&& 6148914691236517205 ≤ 6148914691236517205 := Nat.and_le_right
    omega
  have b1 : b < 9223372036854775808 := by
    have u1 : a / 4 &&& 3689348814741910323 ≤ 3689348814741910323 := Nat.and_le_right
    have u2 : a &&& 3689348814741910323 ≤ 3689348814741910323 := Nat.and_le_right
    omega
  exact ⟨by rw [r1, pop64], a1, b1, r2, r3, r4, r5⟩
end Go.Proofs.YtcfdadgijnmemaaDoor
