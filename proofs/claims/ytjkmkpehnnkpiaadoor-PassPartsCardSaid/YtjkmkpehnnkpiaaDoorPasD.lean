/-
  The machine of a pass: try, walked: the plain function; condition: the flags are without error.
-/
import Derived.Test.YtjkmkpehnnkpiaaDoorPasC
namespace Go.Proofs.YtjkmkpehnnkpiaaDoor
open Go.RowKit Go.Joins
set_option linter.unusedVariables false
set_option linter.unusedSimpArgs false

theorem set_comm {cs : Array Value} {i j : Nat} {u v : Value} (h : i ≠ j) : (cs.setIfInBounds i u).setIfInBounds j v = (cs.setIfInBounds j v).setIfInBounds i u := by
  apply Array.ext_getElem?
  intro k
  by_cases e1 : i = k
  · subst e1
    rw [Array.getElem?_setIfInBounds_ne (Ne.symm h), Array.getElem?_setIfInBounds_self, Array.getElem?_setIfInBounds_self, Array.size_setIfInBounds]
  · by_cases e2 : j = k
    · subst e2
      rw [Array.getElem?_setIfInBounds_self, Array.getElem?_setIfInBounds_ne e1, Array.getElem?_setIfInBounds_self, Array.size_setIfInBounds]
    · rw [Array.getElem?_setIfInBounds_ne e2, Array.getElem?_setIfInBounds_ne e1, Array.getElem?_setIfInBounds_ne e1, Array.getElem?_setIfInBounds_ne e2]

set_option maxRecDepth 100000 in
set_option maxHeartbeats 8000000 in
theorem ptry (F : Nat → Flg) (B : Nat) (T : TypeId) (cs : Array Value) (A : Option Addr) (n c k : Nat) (hn : n ≤ 1000000) (hk : k < n) (h : Bool) (hsk : 0 ≤ (F k).skip ∧ (F k).skip < 64) (w : World) (hA : Cells w A 10 n (flgAt F)) (hAB : ∀ a, A = some a → a.block ≠ B)
    (hb : Blk w B T cs) (g0 : cs[0]? = some (.slice A n c)) (g1 : cs[1]? = some (.int .i64 (k : Int))) (g2 : cs[2]? = some (.bool false)) :
    Calls Tryd.prog 41 #[.pointer (some ⟨B, 0, none⟩), .bool h] w fun e w' => e = .returned (.tuple #[]) ∧ Blk w' B T ((cs.setIfInBounds 1 (.int .i64 (nextP F n k h : Int))).setIfInBounds 2 (.bool (overP F k h))) ∧ w.grownBy w' (some B) := by
  have h0 := hb.cell' (i := 0) g0
  have h1 := hb.cell' (i := 1) g1
  have hf1 := hb.frozen 1
  have hf2 := hb.frozen 2
  have hBl := hb.lt
  have HH := Lib.hid (And.intro hA (And.intro hAB (And.intro hb (And.intro g0 (And.intro g1 g2)))))
  obtain ⟨ab, ao, rfl, had, hcl⟩ := hA (by omega)
  obtain ⟨hs0, hs1⟩ := hsk
  have c0 : w.cell? ⟨ab, ao + k * 10, none⟩ = some (.bool (F k).last) := hcl k 0 hk (by decide)
  have c1 : w.cell? ⟨ab, ao + k * 10 + 1, none⟩ = some (.bool (F k).next) := hcl k 1 hk (by decide)
  have c2 : w.cell? ⟨ab, ao + k * 10 + 2, none⟩ = some (.bool (F k).chain) := hcl k 2 hk (by decide)
  have c3 : w.cell? ⟨ab, ao + k * 10 + 3, none⟩ = some (.bool (F k).fin) := hcl k 3 hk (by decide)
  have c4 : w.cell? ⟨ab, ao + k * 10 + 4, none⟩ = some (.bool (F k).forb) := hcl k 4 hk (by decide)
  have c5 : w.cell? ⟨ab, ao + k * 10 + 5, none⟩ = some (.bool (F k).gone) := hcl k 5 hk (by decide)
  have c6 : w.cell? ⟨ab, ao + k * 10 + 6, none⟩ = some (.bool (F k).app) := hcl k 6 hk (by decide)
  have c7 : w.cell? ⟨ab, ao + k * 10 + 7, none⟩ = some (.bool (F k).disc) := hcl k 7 hk (by decide)
  have c8 : w.cell? ⟨ab, ao + k * 10 + 8, none⟩ = some (.int .i64 (F k).skip) := hcl k 8 hk (by decide)
  have c9 : w.cell? ⟨ab, ao + k * 10 + 9, none⟩ = some (.int .i64 (F k).red) := hcl k 9 hk (by decide)
  clear hcl hAB hb g0 g1 g2 hA
  generalize hbl : (F k).last = bl at c0
  generalize hbn : (F k).next = bn at c1
  generalize hbc : (F k).chain = bc at c2
  generalize hbi : (F k).fin = bi at c3
  generalize hbf : (F k).forb = bf at c4
  generalize hbg : (F k).gone = bg at c5
  generalize hba : (F k).app = ba at c6
  generalize hbd : (F k).disc = bd at c7
  generalize hsk : (F k).skip = sk at c8 hs0 hs1
  generalize hrd : (F k).red = rd at c9
  have HB := Lib.hid (And.intro hbl (And.intro hbn (And.intro hbc (And.intro hbi (And.intro hbf (And.intro hbg (And.intro hsk hrd)))))))
  clear hbl hbn hbc hbi hbf hbg hba hbd hsk hrd
  obtain ⟨X, hX⟩ : ∃ X, X = (w.alloc (.cells #[.bool bl, .bool bn, .bool bc, .bool bi, .bool bf, .bool bg, .bool ba, .bool bd, .int .i64 sk, .int .i64 rd] 54)).drew := ⟨_, rfl⟩
  have hXb : Blk X B T cs := by rw [hX]; exact (HH.out.2.2.1.alloc _).drew
  have hXg : w.grownBy X (some B) := by rw [hX]; exact only_drew (only_alloc (only_refl _ _) _)
  have hXf : Blk X w.heap.size 54 #[.bool bl, .bool bn, .bool bc, .bool bi, .bool bf, .bool bg, .bool ba, .bool bd, .int .i64 sk, .int .i64 rd] := by rw [hX]; exact (Blk.new _ _ _).drew
  have HW := Lib.hid (And.intro hX (And.intro hXb (And.intro hXg hXf)))
  clear hX hXb hXg hXf
  have fin : ∀ (v : Nat) (b : Bool) (W : World), Blk W B T ((cs.setIfInBounds 1 (.int .i64 (v : Int))).setIfInBounds 2 (.bool b)) → nextP F n k h = v → overP F k h = b → Blk W B T ((cs.setIfInBounds 1 (.int .i64 (nextP F n k h : Int))).setIfInBounds 2 (.bool (overP F k h))) := by
    intro v b W h1 h2 h3
    rw [h2, h3]
    exact h1
  have same2 : ∀ v : Value, (cs.setIfInBounds 1 v).setIfInBounds 2 (.bool false) = cs.setIfInBounds 1 v := fun v => set_same (set_other (by decide) HH.out.2.2.2.2.2)
  have HN : Hid ((∀ (v : Nat) (b : Bool) (W : World), Blk W B T ((cs.setIfInBounds 1 (.int .i64 (v : Int))).setIfInBounds 2 (.bool b)) → nextP F n k h = v → overP F k h = b → Blk W B T ((cs.setIfInBounds 1 (.int .i64 (nextP F n k h : Int))).setIfInBounds 2 (.bool (overP F k h)))) ∧ ∀ v : Value, (cs.setIfInBounds 1 v).setIfInBounds 2 (.bool false) = cs.setIfInBounds 1 v) := Lib.hid ⟨fin, same2⟩
  clear fin same2
  cases h with
  | false =>
    go_enter Tryd.func41, Tryd.ntmps41
    go_wp2_with (fail)
    go_region
    rw [← HW.out.1]
    go_wp2_with (fail)
    refine (pchain F B T cs (some ⟨ab, ao, none⟩) n c k hn hk _ (HH.out.1.grown HW.out.2.2.1 (by rintro a k' e1 e2; cases e1; cases e2; exact HH.out.2.1 _ rfl)) HH.out.2.1 HW.out.2.1 HH.out.2.2.2.1 HH.out.2.2.2.2.1).mono ?_
    rintro e W1 ⟨rfl, b1, b2⟩
    have H1 := Lib.hid (And.intro b1 b2)
    clear b1 b2
    go_wp2_with (fail)
    refine bodyPost_ret (v := .tuple #[]) (by simp [results, Tryd.results41, go_sem]) rfl ⟨rfl, HN.out.1 _ false _ (by rw [HN.out.2]; exact H1.out.1) rfl rfl, only_trans HW.out.2.2.1 H1.out.2⟩
  | true =>
    have hnx : ∀ x : Nat, (if bn = true then 0 else if (bi || bf || bg || (rd != 0)) = true then n else if bl = true then n else min (k + 1 + sk.toNat) n) = x → nextP F n k true = x := by
      intro x hx
      unfold nextP
      rw [if_pos rfl, HB.out.1, HB.out.2.1, HB.out.2.2.2.1, HB.out.2.2.2.2.1, HB.out.2.2.2.2.2.1, HB.out.2.2.2.2.2.2.1, HB.out.2.2.2.2.2.2.2]
      exact hx
    have hov : ∀ x : Bool, (!bn && (bi || bf || bg || (rd != 0))) = x → overP F k true = x := by
      intro x hx
      unfold overP
      rw [HB.out.2.1, HB.out.2.2.2.1, HB.out.2.2.2.2.1, HB.out.2.2.2.2.2.1, HB.out.2.2.2.2.2.2.2]
      exact hx
    have H2 := Lib.hid (And.intro hnx hov)
    clear hnx hov
    have x0 := HW.out.2.1.cell' (i := 0) HH.out.2.2.2.1
    have x1 := HW.out.2.1.cell' (i := 1) HH.out.2.2.2.2.1
    have x2 := HW.out.2.1.cell' (i := 2) HH.out.2.2.2.2.2
    have xf1 := HW.out.2.1.frozen 1
    have xf2 := HW.out.2.1.frozen 2
    have xl := HW.out.2.1.lt
    have yl := HW.out.2.2.2.lt
    have y0 := HW.out.2.2.2.cell' (i := 0) rfl
    have y1 := HW.out.2.2.2.cell' (i := 1) rfl
    have y2 := HW.out.2.2.2.cell' (i := 2) rfl
    have y3 := HW.out.2.2.2.cell' (i := 3) rfl
    have y4 := HW.out.2.2.2.cell' (i := 4) rfl
    have y5 := HW.out.2.2.2.cell' (i := 5) rfl
    have y6 := HW.out.2.2.2.cell' (i := 6) rfl
    have y7 := HW.out.2.2.2.cell' (i := 7) rfl
    have y8 := HW.out.2.2.2.cell' (i := 8) rfl
    have y9 := HW.out.2.2.2.cell' (i := 9) rfl
    cases bn with
    | true =>
      go_enter Tryd.func41, Tryd.ntmps41
      go_wp2_with (fail)
      go_region
      rw [← HW.out.1]
      clear c0 c1 c2 c3 c4 c5 c6 c7 c8 c9
      go_wp2_with (fail)
      refine bodyPost_end (v := .tuple #[]) (by simp [results, Tryd.results41, go_sem]) rfl ⟨rfl, ?_, ?_⟩
      · exact HN.out.1 0 false _ (by rw [HN.out.2]; exact HW.out.2.1.set_ 1 (.int .i64 0)) (H2.out.1 0 rfl) (H2.out.2 false rfl)
      · exact only_setCell HW.out.2.2.1 (Or.inl rfl) _
    | false =>
      cases hrb : (rd != 0) <;> cases bi <;> cases bf <;> cases bg
      case false.false.false.false =>
        rw [hrb] at H2
        cases bl with
        | true =>
          go_enter Tryd.func41, Tryd.ntmps41
          go_wp2_with (fail)
          go_region
          rw [← HW.out.1]
          clear c0 c1 c2 c3 c4 c5 c6 c7 c8 c9
          go_wp2_with (fail)
          refine bodyPost_end (v := .tuple #[]) (by simp [results, Tryd.results41, go_sem]) rfl ⟨rfl, ?_, ?_⟩
          · exact HN.out.1 n false _ (by rw [HN.out.2]; exact HW.out.2.1.set_ 1 (.int .i64 (n : Int))) (H2.out.1 n rfl) (H2.out.2 false rfl)
          · exact only_setCell HW.out.2.2.1 (Or.inl rfl) _
        | false =>
          go_enter Tryd.func41, Tryd.ntmps41
          go_wp2_with (fail)
          go_region
          rw [← HW.out.1]
          clear c0 c1 c2 c3 c4 c5 c6 c7 c8 c9
          go_wp2_with (fail)
          go_region
          go_wp2_with (fail)
          refine bodyPost_end (v := .tuple #[]) (by simp [results, Tryd.results41, go_sem]) rfl ⟨rfl, ?_, ?_⟩
          · refine HN.out.1 (min (k + 1 + sk.toNat) n) false _ ?_ (H2.out.1 _ rfl) (H2.out.2 false rfl)
            rw [HN.out.2]
            have e : ((min (k + 1 + sk.toNat) n : Nat) : Int) = min ((k : Int) + 1 + sk) (n : Int) := by omega
            rw [e]
            exact (HW.out.2.1.drewN 1).set_ 1 (.int .i64 (min ((k : Int) + 1 + sk) (n : Int)))
          · exact only_setCell (only_drew HW.out.2.2.1) (Or.inl rfl) _
      all_goals
        rw [hrb] at H2
        go_enter Tryd.func41, Tryd.ntmps41
        go_wp2_with (fail)
        go_region
        rw [← HW.out.1]
        clear c0 c1 c2 c3 c4 c5 c6 c7 c8 c9
        go_wp2_with (fail)
        refine bodyPost_end (v := .tuple #[]) (by simp [results, Tryd.results41, go_sem]) rfl ⟨rfl, ?_, ?_⟩
        · refine HN.out.1 n true _ ?_ (H2.out.1 n rfl) (H2.out.2 true rfl)
          rw [set_comm (by decide)]
          exact (HW.out.2.1.set_ 2 (.bool true)).set_ 1 (.int .i64 (n : Int))
        · exact only_setCell (only_setCell HW.out.2.2.1 (Or.inl rfl) _) (Or.inl rfl) _
end Go.Proofs.YtjkmkpehnnkpiaaDoor
