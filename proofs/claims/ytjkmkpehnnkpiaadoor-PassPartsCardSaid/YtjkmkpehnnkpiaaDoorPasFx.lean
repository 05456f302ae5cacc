/-
  pass.fixed, walked: the plain run with fixed answers; condition: the flags are without error, as many answers as rules.
-/
import Derived.Test.YtjkmkpehnnkpiaaDoorPasJ
namespace Go.Proofs.YtjkmkpehnnkpiaaDoor
open Go.RowKit Go.Joins Go.Shelf
set_option linter.unusedVariables false
set_option linter.unusedSimpArgs false

/-- Fixed answers, q tries at most. -/
def ansF (G : Nat → Bool) (q : Nat) : Nat → Nat → Option Bool := fun r i => if i < q then some (G r) else none

set_option maxRecDepth 100000 in
set_option maxHeartbeats 1000000 in
theorem pansF (G : Nat → Bool) (n q cc X Y i r : Nat) (AA : Option Addr) (hq : q ≤ 1000000) (hi : i ≤ q) (hr : r < n) (hn : n ≤ 1000000) (w : World) (hX : w.cell? ⟨X, 0, none⟩ = some (.slice AA n cc)) (hY : w.cell? ⟨Y, 0, none⟩ = some (.int .i64 (q : Int))) (hA : Cells w AA 1 n (boolAt G)) :
    Calls Tryd.prog 57 #[.int .i64 (r : Int), .int .i64 (i : Int), .pointer (some ⟨X, 0, none⟩), .pointer (some ⟨Y, 0, none⟩)] w fun e W' => (∃ b, e = .returned (.tuple #[.bool b, .bool (ansF G q r i).isSome]) ∧ ∀ h, ansF G q r i = some h → b = h) ∧ ∃ k, W' = w.drewN k := by
  obtain ⟨ab, ao, rfl, had, hcl⟩ := hA (by omega)
  have c0 : w.cell? ⟨ab, ao + r, none⟩ = some (.bool (G r)) := by have h1 := hcl r 0 hr (by decide); rw [Nat.mul_one, Nat.add_zero] at h1; exact h1
  clear hcl hA
  have e1 : ansF G q r i = if (i : Int) < (q : Int) then some (G r) else none := by unfold ansF; by_cases h : i < q <;> simp [h]
  rw [e1]
  clear e1
  generalize G r = b at c0 ⊢
  by_cases hlt : (i : Int) < (q : Int)
  · rw [if_pos hlt]
    go_enter Tryd.func57, Tryd.ntmps57
    go_wp2_with (fail)
    go_quiet (fail)
    go_wp2_with (fail)
    go_ret2
    refine ⟨⟨b, ?_, fun h hh => by injection hh⟩, nq, rfl⟩
    have h2 : i < q := by omega
    simp [h2]
  · rw [if_neg hlt]
    go_enter Tryd.func57, Tryd.ntmps57
    go_wp2_with (fail)
    go_quiet (fail)
    go_wp2_with (fail)
    go_ret2
    refine ⟨⟨b, ?_, fun h hh => by cases hh⟩, nq, rfl⟩
    have h2 : ¬ i < q := by omega
    simp [h2]

set_option maxRecDepth 100000 in
set_option maxHeartbeats 4000000 in
theorem pfixed (F : Nat → Flg) (hF : SkipOk F) (A AA : Option Addr) (n c cc q : Nat) (G : Nat → Bool) (hn : n ≤ 1000000) (hq : q ≤ 1000000) (w : World) (hT : Tabs w) (hA : ArgOk A n c) (hc : Cells w A 10 n (flgAt F)) (hg : Cells w AA 1 n (boolAt G)) (he : flagsE F n = 0) :
    Calls Tryd.prog 49 #[.slice A n c, .slice AA n cc, .int .i64 (q : Int)] w fun e W' => ∃ g B d i v, e = .returned (.tuple #[.pointer (some ⟨g, 0, none⟩), .int .i64 0]) ∧
      i ≤ q ∧ Halt F n (ansF G q) 0 i ∧ Good F n (ansF G q) 0 i ∧ Blk W' g 73 #[.slice B n d, .int .i64 (atN F n (ansF G q) 0 i : Int), .bool (enN F n (ansF G q) 0 false i), v] ∧ W'.ownsRow w.heap.size 3 1 v i (intL (triedN F n (ansF G q) 0 i)) ∧ Below w.heap.size w W' := by
  have hchk : ∀ k, k < n → chkF (F k) = 0 := fun k hk => (flags_zero he hk).1
  have hs : startN F n = n := by unfold startN; rw [if_pos he]
  have H := Lib.hid (And.intro hF (And.intro hT (And.intro hc (And.intro hA (And.intro hg (And.intro hchk (And.intro he hs)))))))
  have z0 := gr_alloc (gr_alloc (Below.refl w.heap.size w) (.cells #[.slice AA n cc] 31)) (.cells #[.int .i64 (q : Int)] 3)
  have f0 := (Blk.new w 31 #[.slice AA n cc]).alloc (.cells #[.int .i64 (q : Int)] 3)
  have f1 : Blk ((w.alloc (.cells #[.slice AA n cc] 31)).alloc (.cells #[.int .i64 (q : Int)] 3)) (w.heap.size + 1) 3 #[.int .i64 (q : Int)] := blk_at (by simp)
  have H0 := Lib.hid (And.intro z0 (And.intro f0 f1))
  clear z0 f0 f1 hF hT hc hA hg hchk
  go_enter Tryd.func49, Tryd.ntmps49
  go_wp2_with (fail)
  refine (pstart F H.out.1 A n c hn _ (H.out.2.1.below H0.out.1 (Nat.le_refl _)) H.out.2.2.2.1 (H.out.2.2.1.below H0.out.1)).mono ?_
  rintro e W1 ⟨B, d, rfl, k1, k2, k3, k4⟩
  rw [hs] at k1 k2 ⊢
  rw [he]
  have z1 := gr_alloc (gr_call H0.out.1 k3) (.cells #[.slice B n d, .int .i64 0, .bool false] 30)
  have f0 := (H0.out.2.1.call k3).alloc (.cells #[.slice B n d, .int .i64 0, .bool false] 30)
  have f1 := (H0.out.2.2.call k3).alloc (.cells #[.slice B n d, .int .i64 0, .bool false] 30)
  have f2 := Blk.new W1 30 #[.slice B n d, .int .i64 0, .bool false]
  have x0 := f0.cell' (i := 0) rfl
  have u0 := f2.cell' (i := 0) rfl
  have u1 := f2.cell' (i := 1) rfl
  have u2 := f2.cell' (i := 2) rfl
  have ul := f2.lt
  have ul0 := f0.lt
  have hlw := (H0.out.2.2.call k3).lt
  have H1 := Lib.hid (And.intro z1 (And.intro f0 (And.intro f1 (And.intro f2 (And.intro k1 (And.intro k2 k4))))))
  clear z1 f0 f1 f2 k1 k2 k3 k4 H0 he hs
  go_wp2_with (fail)
  obtain ⟨X3, hX3⟩ : ∃ X3, X3 = (W1.alloc (.cells #[.slice B n d, .int .i64 0, .bool false] 30)).alloc (.cells #[.slice B n d, .int .i64 0, .bool false, .slice none 0 0] 73) := ⟨_, rfl⟩
  have hsz3 : X3.heap.size = W1.heap.size + 2 := by rw [hX3]; simp
  have hT3 : Blk X3 (W1.heap.size + 1) 73 #[.slice B n d, .int .i64 ((0 : Nat) : Int), .bool false, .slice none 0 0] := by rw [hX3]; exact blk_at (by simp)
  have hk3 : Cells X3 B 10 n (flgAt F) := by rw [hX3]; exact H1.out.2.2.2.2.1.below (gr_alloc (gr_alloc (Below.refl _ _) _) _)
  have h13 : Blk X3 w.heap.size 31 #[.slice AA n cc] := by rw [hX3]; exact H1.out.2.1.alloc _
  have h23 : Blk X3 (w.heap.size + 1) 3 #[.int .i64 (q : Int)] := by rw [hX3]; exact H1.out.2.2.1.alloc _
  have hz3 : Below w.heap.size w X3 := by rw [hX3]; exact gr_alloc H1.out.1 _
  have hans : AnsIs 57 #[.pointer (some ⟨w.heap.size, 0, none⟩), .pointer (some ⟨w.heap.size + 1, 0, none⟩)] n q (ansF G q) X3 (W1.heap.size + 1) := by
    intro W r i hW hr hi
    refine pansF G n q cc w.heap.size (w.heap.size + 1) i r AA hq hi hr hn W ((h13.grown hW (by intro e; injection e with e; omega)).cell' rfl) ((h23.grown hW (by intro e; injection e with e; omega)).cell' rfl) ?_
    intro hm0
    have h5 := H.out.2.2.2.2.1.below hz3
    obtain ⟨b5, o5, e5, l5, _⟩ := H.out.2.2.2.2.1 hm0
    exact h5.grown hW (fun a k e1 e2 => by rw [e5] at e1; cases e1; cases e2; simp; omega) hm0
  rw [← hX3]
  have hBk : ∀ a, B = some a → w.heap.size + 2 ≤ a.block ∧ a.block < W1.heap.size := fun a ha => by have h5 := H1.out.2.2.2.2.2.2 a ha; simp at h5; omega
  have H3 := Lib.hid (And.intro hsz3 (And.intro hz3 (And.intro hk3 hBk)))
  have C := callsIn_wide.1 (prun_in F n d hn B (ansF G q) 0 false (Nat.zero_le _) (fun _ => rfl) q hq (fun r => if_neg (Nat.lt_irrefl q)) (W1.heap.size + 1) 57 #[.pointer (some ⟨w.heap.size, 0, none⟩), .pointer (some ⟨w.heap.size + 1, 0, none⟩)] X3 hk3 (fun a ha => by have := (hBk a ha).2; omega) H.out.2.2.2.2.2.1 hT3 hans (enters_of Tryd.func57 (by kernel_rfl) rfl))
  clear hsz3 hz3 hk3 hT3 h13 h23 hans hX3 x0 u0 u1 u2 ul ul0
  refine C.mono ?_
  rintro e W4 ⟨rfl, i, v, hi, hh, hgd, hb4, ho4, hg4⟩
  have hz4 : Below w.heap.size w W4 := below_only_trans H3.out.2.1 hg4 (by have := H3.out.1; omega) (fun k e => by cases e; omega)
  have ho4' := own_weaken (base' := w.heap.size) ho4 (by have := H3.out.1; omega)
  have H4 := Lib.hid (And.intro hi (And.intro hh (And.intro hgd (And.intro hb4 (And.intro ho4' hz4)))))
  clear hi hh hgd ho4 ho4' hb4 hg4 C H3 hz4
  go_wp2_with (fail)
  go_ret2
  exact ⟨W1.heap.size + 1, B, d, i, v, rfl, H4.out⟩
end Go.Proofs.YtjkmkpehnnkpiaaDoor
