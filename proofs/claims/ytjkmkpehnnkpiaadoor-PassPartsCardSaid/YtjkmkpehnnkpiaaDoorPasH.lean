/-
  The iterator over the rules that are tried, walked: the plain run; condition: the flags are without error, answers as a plain function says.
-/
import Derived.Test.YtjkmkpehnnkpiaaDoorPasG
namespace Go.Proofs.YtjkmkpehnnkpiaaDoor
open Go.RowKit Go.Joins Go.Shelf
set_option linter.unusedVariables false
set_option linter.unusedSimpArgs false
attribute [local go_sem] Oper.semAt_some

/-- What holds between two rounds: i rules are tried. -/
def Between (F : Nat → Flg) (n : Nat) (ans : Nat → Nat → Option Bool) (a0 : Nat) (e0 : Bool) (w0 : World) (B : Nat) (A : Option Addr) (c : Nat) (i : Nat) (W : World) : Prop :=
  Good F n ans a0 i ∧ Trial w0 B A n c (atN F n ans a0 i) (enN F n ans a0 e0 i) (triedN F n ans a0 i) W
def StJ (F : Nat → Flg) (n : Nat) (ans : Nat → Nat → Option Bool) (a0 : Nat) (e0 : Bool) (w0 : World) (B : Nat) (A : Option Addr) (c N : Nat) (xs : List Nat) (W : World) : Prop :=
  ∃ i, i ≤ N ∧ xs = triedN F n ans a0 i ∧ Between F n ans a0 e0 w0 B A c i W
def StY (F : Nat → Flg) (n : Nat) (ans : Nat → Nat → Option Bool) (a0 : Nat) (e0 : Bool) (w0 : World) (B : Nat) (A : Option Addr) (c N : Nat) (xs : List Nat) (x : Nat) (W : World) : Prop :=
  ∃ i, i + 1 ≤ N ∧ xs = triedN F n ans a0 i ∧ x = atN F n ans a0 i ∧ Good F n ans a0 (i + 1) ∧ Trial w0 B A n c (atN F n ans a0 (i + 1)) (enN F n ans a0 e0 (i + 1)) (triedN F n ans a0 i) W
def StZ (F : Nat → Flg) (n : Nat) (ans : Nat → Nat → Option Bool) (a0 : Nat) (e0 : Bool) (w0 : World) (B : Nat) (A : Option Addr) (c N : Nat) (xs : List Nat) (W : World) : Prop :=
  ∃ i, i ≤ N ∧ xs = triedN F n ans a0 i ∧ Halt F n ans a0 i ∧ Between F n ans a0 e0 w0 B A c i W

/-- The answer of the function value: what it says of a rule and a number. -/
def AnsIs (fa : Nat) (cp : Array Value) (n N : Nat) (ans : Nat → Nat → Option Bool) (w0 : World) (B : Nat) : Prop :=
  ∀ W r i, w0.grownBy W (some B) → r < n → i ≤ N → Calls Tryd.prog fa (#[.int .i64 (r : Int), .int .i64 (i : Int)] ++ cp) W fun e W' => (∃ b, e = .returned (.tuple #[.bool b, .bool (ans r i).isSome]) ∧ ∀ h, ans r i = some h → b = h) ∧ ∃ q, W' = W.drewN q

theorem atN_le (F : Nat → Flg) (n : Nat) (ans : Nat → Nat → Option Bool) (a0 : Nat) (h : a0 ≤ n) (i : Nat) : atN F n ans a0 i ≤ n := by
  induction i with
  | zero => exact h
  | succ i ih =>
    unfold atN
    split
    · exact nextP_le _ _ _ _
    · exact ih
def encN (x : Nat) : Array Value := #[.int .i64 (x : Int)]

set_option maxRecDepth 100000 in
set_option maxHeartbeats 4000000 in
theorem titer (n1 : Nat) (hn1 : 1 ≤ n1) (F : Nat → Flg) (n c : Nat) (hn : n ≤ 1000000) (A : Option Addr) (ans : Nat → Nat → Option Bool) (a0 : Nat) (e0 : Bool) (ha0 : a0 ≤ n) (he0 : a0 < n → e0 = false) (N : Nat) (hN : N ≤ 1000000) (hstop : ∀ r, ans r N = none)
    (l B bt ba fa : Nat) (cp : Array Value) (tf : TypeId) (w0 : World) (hB : B < w0.heap.size) (hA : Cells w0 A 10 n (flgAt F)) (hAB : ∀ a, A = some a → a.block ≠ B) (hchk : ∀ k, k < n → chkF (F k) = 0)
    (hbt : Blk w0 bt 71 #[.pointer (some ⟨B, 0, none⟩)]) (hba : Blk w0 ba tf #[.func (.func fa) #[] cp]) (hb1 : bt ≠ B) (hb2 : ba ≠ B) (hans : AnsIs fa cp n N ans w0 B) (heg : ∀ args w, (callFunc fa args).run Tryd.prog w = .ok (.enter fa args) w)
    (R : World → Prop) (hR : ∀ W W', R W → KeepsFrom w0.heap.size W W' → R W')
    (hY : ∀ pre x W, StY F n ans a0 e0 w0 B A c N pre x W → R W → YieldAt Fence.wide (n1 - 1) Tryd.prog l (encN x) W fun e W' => e = .returned (.bool true) ∧ StJ F n ans a0 e0 w0 B A c N (pre ++ [x]) W' ∧ R W')
    (W : World) (h0 : StJ F n ans a0 e0 w0 B A c N [] W) (hRW : R W) :
    CallsIn Fence.wide n1 Tryd.prog 61 (#[.func (.yield l) #[] #[]] ++ #[.pointer (some ⟨bt, 0, none⟩), .pointer (some ⟨ba, 0, none⟩)]) W fun e W' => (∃ v, e = .returned v) ∧ R W' ∧ ∃ xs, StZ F n ans a0 e0 w0 B A c N xs W' := by
  have HH := Lib.hid (And.intro hA (And.intro hAB (And.intro hchk (And.intro hbt (And.intro hba (And.intro hans (And.intro hR (And.intro hY (And.intro hstop he0)))))))))
  clear hA hAB hchk hbt hba hans hR hY hstop he0
  refine callsIn_of_wp Tryd.func61 rfl trivial ?_ rfl
  simp only [Tryd.ntmps61, List.size_toArray, List.length_cons, List.length_nil, Nat.reduceAdd, Nat.reduceSub, Array.replicate_succ, Array.replicate_zero, List.push_toArray, List.append_toArray, List.nil_append, List.cons_append]
  gi_wp2
  gi_loopw [4] (fun i wr => ∃ k : Nat, k ≤ N ∧ i = .int .i64 (k : Int) ∧ Between F n ans a0 e0 w0 B A c k wr ∧ R wr) (fun i _ => N + 1 - (intOf i).toNat)
  case atStart =>
    obtain ⟨i, hi, hx, hb⟩ := h0
    have : i = 0 := by
      have := congrArg List.length hx
      rw [triedN_len] at this
      simpa using this.symm
    subst this
    exact ⟨0, Nat.zero_le _, rfl, hb, hRW⟩
  case round =>
    obtain ⟨k, hk, rfl, ⟨hg, v, hblk, hown, hgr⟩, hr⟩ := hrel
    have ht := HH.out.2.2.2.1.grown hgr (by intro e; cases e; exact hb1 rfl)
    have ha := HH.out.2.2.2.2.1.grown hgr (by intro e; cases e; exact hb2 rfl)
    have d0 := ht.cell' (i := 0) rfl
    have d1 := ha.cell' (i := 0) rfl
    have c0 := hblk.cell' (i := 0) rfl
    have c1 := hblk.cell' (i := 1) rfl
    have hBl := hblk.lt
    have H := Lib.hid (And.intro hg (And.intro hblk (And.intro hown (And.intro hgr (And.intro hr (And.intro ht ha))))))
    clear hg hblk hown hgr hr ht ha
    obtain ⟨t, htd⟩ : ∃ t, t = atN F n ans a0 k := ⟨_, rfl⟩
    rw [← htd] at c1
    have HT := Lib.hid htd
    clear htd
    by_cases hlt : t < n
    · gi_wp2
      refine ⟨trivial, (callsIn_wide.2 (pover_no B A n c t hlt _ hn c0 c1)).mono ?_⟩
      rintro e W1 ⟨rfl, q, rfl⟩
      have f0 : (wr.drewN q).cell? ⟨bt, 0, none⟩ = some (.pointer (some ⟨B, 0, none⟩)) := d0
      have f1 : (wr.drewN q).cell? ⟨ba, 0, none⟩ = some (.func (.func fa) #[] cp) := d1
      have g0 : (wr.drewN q).cell? ⟨B, 0, none⟩ = some (.slice A n c) := c0
      have g1 : (wr.drewN q).cell? ⟨B, 1, none⟩ = some (.int .i64 (t : Int)) := c1
      have hg2 := only_drewN H.out.2.2.2.1 q
      have hbk := H.out.2.1.drewN q
      have how := own_drewN H.out.2.2.1 q
      have hrq : R (wr.drewN q) := HH.out.2.2.2.2.2.2.1 _ _ H.out.2.2.2.2.1 ((KeepsOthers.of_grownBy (only_drewN (only_refl wr none) q) (fun _ _ h => by cases h)).from _)
      have hBq : B < (wr.drewN q).heap.size := hBl
      rw [← HT.out] at hbk
      have H1 := Lib.hid (And.intro H.out.1 (And.intro hbk (And.intro how (And.intro hg2 hrq))))
      generalize hX1 : wr.drewN q = W1 at f0 f1 g0 g1 hg2 hbk how hrq H1 hBq ⊢
      clear d0 d1 c0 c1 hBl hbk how hrq hX1 H
      gi_wp2
      refine ⟨trivial, (callsIn_wide.2 (HH.out.2.2.2.2.2.1 W1 t k hg2 hlt hk)).mono ?_⟩
      rintro e W2 ⟨⟨b, rfl, hb⟩, q2, rfl⟩
      have hrq2 : R (W1.drewN q2) := HH.out.2.2.2.2.2.2.1 _ _ H1.out.2.2.2.2 ((KeepsOthers.of_grownBy (only_drewN (only_refl W1 none) q2) (fun _ _ h => by cases h)).from _)
      have H1x := Lib.hid (And.intro H1.out.1 (And.intro (H1.out.2.1.drewN q2) (And.intro (own_drewN H1.out.2.2.1 q2) (And.intro (only_drewN H1.out.2.2.2.1 q2) hrq2))))
      have f0 : (W1.drewN q2).cell? ⟨bt, 0, none⟩ = some (.pointer (some ⟨B, 0, none⟩)) := f0
      have f1 : (W1.drewN q2).cell? ⟨ba, 0, none⟩ = some (.func (.func fa) #[] cp) := f1
      have g0 : (W1.drewN q2).cell? ⟨B, 0, none⟩ = some (.slice A n c) := g0
      have g1 : (W1.drewN q2).cell? ⟨B, 1, none⟩ = some (.int .i64 (t : Int)) := g1
      have hBq : B < (W1.drewN q2).heap.size := hBq
      generalize hX2 : W1.drewN q2 = W2 at f0 f1 g0 g1 hBq H1x ⊢
      clear hg2 hrq2 H1 hX2
      have H1 := H1x
      clear H1x
      cases hans : ans t k with
      | none =>
        have hfin : StZ F n ans a0 e0 w0 B A c N (triedN F n ans a0 k) W2 := ⟨k, hk, rfl, Or.inr (by rw [← HT.out]; exact hans), H1.out.1, _, by rw [← HT.out]; exact H1.out.2.1, H1.out.2.2.1, H1.out.2.2.2.1⟩
        have HZ := Lib.hid hfin
        clear hfin hb hans
        simp only [Option.isSome_none]
        gi_wp2
        refine bodyPost_ret (results_none rfl _ _ _) rfl ?_
        exact ⟨⟨_, rfl⟩, H1.out.2.2.2.2, _, HZ.out⟩
      | some h =>
        have hbh := hb h hans
        subst hbh
        have hgs : Good F n ans a0 (k + 1) := good_succ H1.out.1 (by rw [← HT.out]; exact hlt) (by rw [← HT.out]; exact hans)
        have has : atN F n ans a0 (k + 1) = nextP F n t b := by rw [at_succ (h := b) (by rw [← HT.out]; exact hans), ← HT.out]
        have hes : enN F n ans a0 e0 (k + 1) = overP F t b := by rw [en_succ (h := b) (by rw [← HT.out]; exact hans), ← HT.out]
        have hen : enN F n ans a0 e0 k = false := en_false HH.out.2.2.2.2.2.2.2.2.2 H1.out.1 (by rw [← HT.out]; exact hlt)
        have hkN : k < N := by
          rcases Nat.lt_or_ge k N with h' | h'
          · exact h'
          · obtain rfl : k = N := by omega
            rw [HH.out.2.2.2.2.2.2.2.2.1 t] at hans
            cases hans
        have HS := Lib.hid (And.intro hgs (And.intro has hes))
        have hbl := H1.out.2.1
        rw [hen] at hbl
        have hcw := (HH.out.1.grown H1.out.2.2.2.1 (by rintro a k' e1 e2; cases e2; exact HH.out.2.1 _ e1))
        obtain ⟨s0, s1, _, _⟩ := chkF_zero (HH.out.2.2.1 t hlt)
        have C1 := Lib.hid (ptry F B 73 _ A n c t hn hlt b ⟨s0, s1⟩ W2 hcw HH.out.2.1 hbl rfl rfl rfl)
        clear hgs has hes hen hb hans hbl hcw s0 s1
        simp only [Option.isSome_some]
        gi_wp2
        refine ⟨trivial, (callsIn_wide.2 C1.out).mono ?_⟩
        rintro e W3 ⟨rfl, m1, m2⟩
        have m1 : Blk W3 B 73 #[.slice A n c, .int .i64 (nextP F n t b : Int), .bool (overP F t b), v] := m1
        have how3 := own_grown H1.out.2.2.1 H1.out.2.1 (by decide) m2
        have hgr3 := only_trans H1.out.2.2.2.1 m2
        have hR3 : R W3 := HH.out.2.2.2.2.2.2.1 _ _ H1.out.2.2.2.2 (KeepsFrom.of_grownBy m2 (fun j hj => by cases hj; exact hB))
        have hst : StY F n ans a0 e0 w0 B A c N (triedN F n ans a0 k) t W3 := ⟨k, hkN, rfl, HT.out, HS.out.1, v, by rw [HS.out.2.1, HS.out.2.2]; exact m1, how3, hgr3⟩
        obtain ⟨fn, tmps, assign, body, hy, hRd⟩ := HH.out.2.2.2.2.2.2.2.1 _ _ _ hst hR3
        simp only [encN] at hy
        clear m1 m2 how3 hgr3 hR3 hst f0 f1 g0 g1 C1 H1 hBq
        gi_wp2
        refine hRd.mono ?_
        rintro e W4 ⟨rfl, ⟨i', hi', hx', hb'⟩, hr'⟩
        have : i' = k + 1 := by
          have := congrArg List.length hx'
          rw [List.length_append, triedN_len, triedN_len] at this
          simpa using this.symm
        subst this
        have H4 := Lib.hid (And.intro hb' hr')
        clear hb' hr' hy hRd hx'
        gi_wp2
        go_roundw
        case rel => exact ⟨k + 1, by omega, rfl, H4.out.1, H4.out.2⟩
        case measure => simp [intOf]; omega
    · have htn : t = n := by have := atN_le F n ans a0 ha0 k; rw [← HT.out] at this; omega
      rw [htn] at c1
      gi_wp2
      refine ⟨trivial, (callsIn_wide.2 (pover_yes B A n c _ hn c0 c1)).mono ?_⟩
      rintro e W1 ⟨rfl, q, rfl⟩
      have hrq : R (wr.drewN q) := HH.out.2.2.2.2.2.2.1 _ _ H.out.2.2.2.2.1 ((KeepsOthers.of_grownBy (only_drewN (only_refl wr none) q) (fun _ _ h => by cases h)).from _)
      have hfin : StZ F n ans a0 e0 w0 B A c N (triedN F n ans a0 k) (wr.drewN q) := ⟨k, hk, rfl, Or.inl (by rw [← HT.out]; exact hlt), H.out.1, _, H.out.2.1.drewN q, own_drewN H.out.2.2.1 q, only_drewN H.out.2.2.2.1 q⟩
      have HZ := Lib.hid (And.intro hrq hfin)
      clear hrq hfin d0 d1 c0 c1 H
      gi_wp2
      go_end0
      exact ⟨⟨_, rfl⟩, HZ.out.1, _, HZ.out.2⟩
end Go.Proofs.YtjkmkpehnnkpiaaDoor
