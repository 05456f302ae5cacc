/-
  Lists of flags: their error (program and reference), their copy; condition: the two tables lie as they are laid.
-/
import Derived.Test.YtjkmkpehnnkpiaaDoorFlgE
namespace Go.Proofs.YtjkmkpehnnkpiaaDoor
open Go.RowKit Go.Joins
set_option linter.unusedVariables false
set_option linter.unusedSimpArgs false

def flgAt (F : Nat → Flg) : Nat → Nat → Value := fun i j => ([Value.bool (F i).last, .bool (F i).next, .bool (F i).chain, .bool (F i).fin, .bool (F i).forb, .bool (F i).gone, .bool (F i).app, .bool (F i).disc, .int .i64 (F i).skip, .int .i64 (F i).red] : List Value).getD j (.bool false)
/-- The skips are ints. -/
def SkipOk (F : Nat → Flg) : Prop := ∀ i, -9223372036854775808 ≤ (F i).skip ∧ (F i).skip ≤ 9223372036854775807
theorem flgAt_one (F : Nat → Flg) (i j : Nat) : (flgAt F i j).oneCell' = true := by
  unfold flgAt
  match j with
  | 0 => rfl
  | 1 => rfl
  | 2 => rfl
  | 3 => rfl
  | 4 => rfl
  | 5 => rfl
  | 6 => rfl
  | 7 => rfl
  | 8 => rfl
  | 9 => rfl
  | n + 10 => rfl
theorem infoFlg : (Tryd.prog.info? 54).map (fun i => (i.zero, i.size, i.bytes)) = some (some (.agg #[.bool false, .bool false, .bool false, .bool false, .bool false, .bool false, .bool false, .bool false, .int .i64 0, .int .i64 0]), 10, 24) := by kernel_rfl

def FlRel (F : Nat → Flg) (n : Nat) (w : World) (i : Value) (wr : World) : Prop := Below w.heap.size w wr ∧ ∃ k : Nat, k ≤ n ∧ i = .int .i64 (k : Int) ∧ chkL F k = 0

set_option maxRecDepth 100000 in
set_option maxHeartbeats 4000000 in
theorem rflags (F : Nat → Flg) (hF : SkipOk F) (A : Option Addr) (n c : Nat) (hn : n ≤ 1000000) (w : World) (hA : Cells w A 10 n (flgAt F)) :
    Calls Tryd.prog 42 #[.slice A n c] w fun e W' => e = .returned (.int .i64 (flagsE F n)) ∧ Below w.heap.size w W' := by
  have HA := Lib.hid (And.intro hA hF)
  clear hA hF
  by_cases h64 : 64 < n
  · go_enter Tryd.func42, Tryd.ntmps42
    go_wp2_with (fail)
    go_ret
    exact ⟨ret_int (by unfold flagsE; rw [if_pos h64]), Below.refl _ _⟩
  go_enter Tryd.func42, Tryd.ntmps42
  go_wp2_with (fail)
  go_loopw [3] (fun i wr => FlRel F n w i wr) (fun i _ => n - (intOf i).toNat)
  case atStart => exact ⟨Below.refl _ _, 0, Nat.zero_le _, rfl, rfl⟩
  case round =>
    obtain ⟨hbel, k, hk, rfl, hz⟩ := hrel
    by_cases hlt : k < n
    · obtain ⟨ab, ao, rfl, had, hcl⟩ := (HA.out.1.below hbel) (by omega)
      have c0 : wr.cell? ⟨ab, ao + k * 10, none⟩ = some (.bool (F k).last) := hcl k 0 hlt (by decide)
      have c1 : wr.cell? ⟨ab, ao + k * 10 + 1, none⟩ = some (.bool (F k).next) := hcl k 1 hlt (by decide)
      have c2 : wr.cell? ⟨ab, ao + k * 10 + 2, none⟩ = some (.bool (F k).chain) := hcl k 2 hlt (by decide)
      have c3 : wr.cell? ⟨ab, ao + k * 10 + 3, none⟩ = some (.bool (F k).fin) := hcl k 3 hlt (by decide)
      have c4 : wr.cell? ⟨ab, ao + k * 10 + 4, none⟩ = some (.bool (F k).forb) := hcl k 4 hlt (by decide)
      have c5 : wr.cell? ⟨ab, ao + k * 10 + 5, none⟩ = some (.bool (F k).gone) := hcl k 5 hlt (by decide)
      have c6 : wr.cell? ⟨ab, ao + k * 10 + 6, none⟩ = some (.bool (F k).app) := hcl k 6 hlt (by decide)
      have c7 : wr.cell? ⟨ab, ao + k * 10 + 7, none⟩ = some (.bool (F k).disc) := hcl k 7 hlt (by decide)
      have c8 : wr.cell? ⟨ab, ao + k * 10 + 8, none⟩ = some (.int .i64 (F k).skip) := hcl k 8 hlt (by decide)
      have c9 : wr.cell? ⟨ab, ao + k * 10 + 9, none⟩ = some (.int .i64 (F k).red) := hcl k 9 hlt (by decide)
      have HB := Lib.hid (And.intro hbel hz)
      clear hcl hbel hz
      go_wp2_with (fail)
      refine (rcheck (F k) (HA.out.2 k) _).mono ?_
      rintro e W1 ⟨rfl, h1⟩
      have H1 := Lib.hid (gr_call HB.out.1 h1)
      clear h1 c0 c1 c2 c3 c4 c5 c6 c7 c8 c9
      by_cases h0 : chkF (F k) = 0
      · have HZ := Lib.hid h0
        rw [h0]
        clear h0
        go_wp2_with (fail)
        exact ⟨⟨H1.out, k + 1, by omega, by go_num, by unfold chkL; rw [if_pos HB.out.2]; exact HZ.out⟩, by simp [intOf]; omega⟩
      · generalize hx : chkF (F k) = x at h0 ⊢
        go_wp2_with (fail)
        go_ret
        refine ⟨ret_int ?_, H1.out⟩
        unfold flagsE
        rw [if_neg h64, chkL_first hlt HB.out.2 (by rw [hx]; exact h0), hx]
    · obtain rfl : k = n := by omega
      have HB := Lib.hid (And.intro hbel hz)
      clear hbel hz
      go_wp2_with (fail)
      go_ret
      exact ⟨ret_int (by unfold flagsE; rw [if_neg h64]; exact HB.out.2.symm), HB.out.1⟩

set_option maxRecDepth 100000 in
set_option maxHeartbeats 4000000 in
theorem powns (F : Nat → Flg) (A : Option Addr) (n c : Nat) (hn : n ≤ 1000000) (w : World) (hA : ArgOk A n c) (hc : Cells w A 10 n (flgAt F)) :
    Calls Tryd.prog 44 #[.slice A n c] w fun e W' => ∃ B d, e = .returned (.slice B n d) ∧ Cells W' B 10 n (flgAt F) ∧ ArgOk B n d ∧ Below w.heap.size w W' ∧ ∀ a, B = some a → w.heap.size ≤ a.block ∧ a.block < W'.heap.size := by
  obtain ⟨i1, hi1, hz10, hz11, hz12⟩ := info_parts infoFlg
  have HA := Lib.hid (And.intro hA hc)
  clear hA hc
  go_enter Tryd.func44, Tryd.ntmps44
  go_wp2_with (at_builtin; refine append_any rfl _ _ 22 rfl w.heap.size 54 i1 _ 10 24 Tryd.underlying22 hi1 hz10 hz11 hz12 rfl (by decide) _ rfl (World.ownsRow_nil _ _ _ _) A n c (flgAt F) rfl HA.out.1 ?c1 ?c2 ?c3 ?c4 ?c5 ?_)
  case c1 => exact HA.out.2
  case c2 => exact flgAt_one F
  case c3 => unfold maxLen; omega
  case c4 => omega
  case c5 => exact Nat.le_refl _
  intro v1 W1 hown1 hgrow1
  have b1 : Below w.heap.size w W1 := (Below.refl w.heap.size w).grown hgrow1 (Nat.le_refl _) (by intro k hk; cases hk)
  obtain ⟨B1, d1, rfl, q1, ok1⟩ := row_cells (by decide) hown1
  have fr : ∀ a, B1 = some a → w.heap.size ≤ a.block ∧ a.block < W1.heap.size := fun a ha => hown1.lt a.block (by rw [ha]; rfl)
  have H := Lib.hid (And.intro b1 (And.intro q1 (And.intro ok1 fr)))
  clear b1 q1 ok1 hown1 hgrow1 fr
  go_wp2_with (fail)
  go_ret
  exact ⟨B1, d1, rfl, H.out.2.1, H.out.2.2.1, H.out.1, H.out.2.2.2⟩

set_option maxRecDepth 100000 in
set_option maxHeartbeats 4000000 in
theorem pcheck (F : Nat → Flg) (hF : SkipOk F) (A : Option Addr) (n c : Nat) (t : Int) (en : Bool) (ht : -9223372036854775808 ≤ t ∧ t ≤ 9223372036854775807) (hn : n ≤ 1000000) (w : World) (hT : Tabs w) (hA : Cells w A 10 n (flgAt F)) :
    Calls Tryd.prog 17 #[.agg #[.slice A n c, .int .i64 t, .bool en]] w fun e W' => e = .returned (.int .i64 (passE F n t en)) ∧ Below w.heap.size w W' := by
  have HA := Lib.hid (And.intro hA (And.intro hF hT))
  clear hA hF hT
  obtain ⟨ht1, ht2⟩ := ht
  by_cases h64 : 64 < n
  · go_enter Tryd.func17, Tryd.ntmps17
    go_wp2_with (fail)
    go_ret
    refine ⟨ret_int ?_, gr_alloc (Below.refl _ _) _⟩
    have e : flagsE F n = 5 := by unfold flagsE; rw [if_pos h64]
    unfold passE
    rw [e]; rfl
  have hfe : flagsE F n = chkL F n := by unfold flagsE; rw [if_neg h64]
  have HE := Lib.hid hfe
  clear hfe
  go_enter Tryd.func17, Tryd.ntmps17
  go_wp2_with (fail)
  go_loopw [13] (fun i wr => FlRel F n w i wr ∧ Blk wr w.heap.size 30 #[.slice A n c, .int .i64 t, .bool en]) (fun i _ => n - (intOf i).toNat)
  case atStart => exact ⟨⟨gr_alloc (Below.refl _ _) _, 0, Nat.zero_le _, rfl, rfl⟩, Blk.new _ _ _⟩
  case round =>
    obtain ⟨⟨hbel, k, hk, rfl, hz⟩, hblk⟩ := hrel
    by_cases hlt : k < n
    · obtain ⟨ab, ao, rfl, had, hcl⟩ := (HA.out.1.below hbel) (by omega)
      have c0 : wr.cell? ⟨ab, ao + k * 10, none⟩ = some (.bool (F k).last) := hcl k 0 hlt (by decide)
      have c1 : wr.cell? ⟨ab, ao + k * 10 + 1, none⟩ = some (.bool (F k).next) := hcl k 1 hlt (by decide)
      have c2 : wr.cell? ⟨ab, ao + k * 10 + 2, none⟩ = some (.bool (F k).chain) := hcl k 2 hlt (by decide)
      have c3 : wr.cell? ⟨ab, ao + k * 10 + 3, none⟩ = some (.bool (F k).fin) := hcl k 3 hlt (by decide)
      have c4 : wr.cell? ⟨ab, ao + k * 10 + 4, none⟩ = some (.bool (F k).forb) := hcl k 4 hlt (by decide)
      have c5 : wr.cell? ⟨ab, ao + k * 10 + 5, none⟩ = some (.bool (F k).gone) := hcl k 5 hlt (by decide)
      have c6 : wr.cell? ⟨ab, ao + k * 10 + 6, none⟩ = some (.bool (F k).app) := hcl k 6 hlt (by decide)
      have c7 : wr.cell? ⟨ab, ao + k * 10 + 7, none⟩ = some (.bool (F k).disc) := hcl k 7 hlt (by decide)
      have c8 : wr.cell? ⟨ab, ao + k * 10 + 8, none⟩ = some (.int .i64 (F k).skip) := hcl k 8 hlt (by decide)
      have c9 : wr.cell? ⟨ab, ao + k * 10 + 9, none⟩ = some (.int .i64 (F k).red) := hcl k 9 hlt (by decide)
      have HB := Lib.hid (And.intro hbel (And.intro hz hblk))
      clear hcl hbel hz hblk
      go_wp2_with (fail)
      have hb0 := gr_alloc HB.out.1 (.cells #[Value.bool (F k).last, .bool (F k).next, .bool (F k).chain, .bool (F k).fin, .bool (F k).forb, .bool (F k).gone, .bool (F k).app, .bool (F k).disc, .int .i64 (F k).skip, .int .i64 (F k).red] 54)
      have hk0 := HB.out.2.2.alloc (.cells #[Value.bool (F k).last, .bool (F k).next, .bool (F k).chain, .bool (F k).fin, .bool (F k).forb, .bool (F k).gone, .bool (F k).app, .bool (F k).disc, .int .i64 (F k).skip, .int .i64 (F k).red] 54)
      refine (fcheck (F k) (HA.out.2.1 k) _ (HA.out.2.2.below hb0 (Nat.le_refl _))).mono ?_
      rintro e W1 ⟨rfl, h1⟩
      have H1 := Lib.hid (And.intro (gr_call hb0 h1) (hk0.call h1))
      clear hb0 hk0 h1 c0 c1 c2 c3 c4 c5 c6 c7 c8 c9
      by_cases h0 : chkF (F k) = 0
      · have HZ := Lib.hid h0
        rw [h0]
        clear h0
        go_wp2_with (fail)
        exact ⟨⟨⟨H1.out.1, k + 1, by omega, by go_num, by unfold chkL; rw [if_pos HB.out.2.1]; exact HZ.out⟩, H1.out.2⟩, by simp [intOf]; omega⟩
      · generalize hx : chkF (F k) = x at h0 ⊢
        go_wp2_with (fail)
        go_ret
        refine ⟨ret_int ?_, H1.out.1⟩
        have e : flagsE F n = x := by rw [HE.out, chkL_first hlt HB.out.2.1 (by rw [hx]; exact h0), hx]
        unfold passE
        rw [e, if_neg h0]
    · obtain rfl : k = n := by omega
      have e : ∀ y : Int, (if t < 0 ∨ (k : Int) < t then 2 else if en = true ∧ t < k then 9 else 0) = y → passE F k t en = y := by
        intro y hy
        unfold passE
        rw [HE.out, hz, if_pos rfl]; exact hy
      have HY := Lib.hid e
      have c0 := hblk.cell' (i := 0) rfl
      have c1 := hblk.cell' (i := 1) rfl
      have c2 := hblk.cell' (i := 2) rfl
      have hw0 := hblk.lt
      have HB := Lib.hid hbel
      clear hbel hz hblk e
      by_cases a1 : t < 0
      · go_wp2_with (fail)
        go_ret
        exact ⟨ret_int (HY.out _ (by rw [if_pos (Or.inl a1)])).symm, HB.out⟩
      by_cases a2 : (k : Int) < t
      · go_wp2_with (fail)
        go_ret
        exact ⟨ret_int (HY.out _ (by rw [if_pos (Or.inr a2)])).symm, HB.out⟩
      by_cases a3 : t < k
      · cases en
        · go_wp2_with (fail)
          go_ret
          exact ⟨ret_int (HY.out _ (by rw [if_neg (by omega), if_neg (by simp)])).symm, HB.out⟩
        · go_wp2_with (fail)
          go_ret
          exact ⟨ret_int (HY.out _ (by rw [if_neg (by omega)]; simp [a3])).symm, HB.out⟩
      · cases en
        · go_wp2_with (fail)
          go_ret
          exact ⟨ret_int (HY.out _ (by rw [if_neg (by omega), if_neg (by simp)])).symm, HB.out⟩
        · go_wp2_with (fail)
          go_ret
          exact ⟨ret_int (HY.out _ (by rw [if_neg (by omega), if_neg (by omega)])).symm, HB.out⟩
end Go.Proofs.YtjkmkpehnnkpiaaDoor
