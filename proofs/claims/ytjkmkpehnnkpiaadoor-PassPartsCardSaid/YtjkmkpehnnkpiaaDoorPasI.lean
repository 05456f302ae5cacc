/-
  tries and run, walked: the plain run; condition: the flags are without error, answers as a plain function says.
-/
import Derived.Test.YtjkmkpehnnkpiaaDoorPasH
namespace Go.Proofs.YtjkmkpehnnkpiaaDoor
open Go.RowKit Go.Joins Go.Shelf
set_option linter.unusedVariables false
set_option linter.unusedSimpArgs false
attribute [local go_sem] Oper.semAt_some

set_option maxHeartbeats 1000000 in
theorem ptries_in (n B fa : Nat) (cp : Array Value) (w : World) :
    CallsIn Fence.wide n Tryd.prog 55 #[.pointer (some ⟨B, 0, none⟩), .func (.func fa) #[] cp] w fun e w' => e = .returned (.func (.func 61) #[] #[.pointer (some ⟨w.heap.size, 0, none⟩), .pointer (some ⟨w.heap.size + 1, 0, none⟩)]) ∧
      w' = (w.alloc (.cells #[.pointer (some ⟨B, 0, none⟩)] 71)).alloc (.cells #[.func (.func fa) #[] cp] 75) := by
  refine callsIn_of_wp Tryd.func55 rfl trivial ?_ rfl
  simp only [Tryd.ntmps55, List.size_toArray, List.length_cons, List.length_nil, Nat.reduceAdd, Nat.reduceSub, Array.replicate_succ, Array.replicate_zero, List.push_toArray, List.append_toArray, List.nil_append, List.cons_append]
  gi_wp2
  go_ret
  exact ⟨rfl, rfl⟩
theorem trial_put {w0 W : World} {B : Nat} {A : Option Addr} {n c t : Nat} {e : Bool} {l : List Nat} {k : Nat} {o o' : Obj} (h : Trial w0 B A n c t e l W) (hB : B < w0.heap.size) (hk : w0.heap.size ≤ k) (ho : W.heap[k]? = some o) (hc : o.isCells = false) : Trial w0 B A n c t e l (W.putObj k o') := by
  obtain ⟨v, h1, h2, h3⟩ := h
  exact ⟨v, (World.putObj_heap_other (by omega)).trans h1, ownsRow_putObj h2 _ ho hc, grown_mix h3 (grownBy_putObj' W k o') (fun q e => by cases e; exact Or.inr hk)⟩
theorem trial_alloc {w0 W : World} {B : Nat} {A : Option Addr} {n c t : Nat} {e : Bool} {l : List Nat} (h : Trial w0 B A n c t e l W) (o : Obj) : Trial w0 B A n c t e l (W.alloc o) := by
  obtain ⟨v, h1, h2, h3⟩ := h
  exact ⟨v, h1.alloc _, h2.alloc _, only_alloc h3 _⟩

set_option maxRecDepth 100000 in
set_option maxHeartbeats 4000000 in
theorem prun_in (F : Nat → Flg) (n c : Nat) (hn : n ≤ 1000000) (A : Option Addr) (ans : Nat → Nat → Option Bool) (a0 : Nat) (e0 : Bool) (ha0 : a0 ≤ n) (he0 : a0 < n → e0 = false) (N : Nat) (hN : N ≤ 1000000) (hstop : ∀ r, ans r N = none)
    (B fa : Nat) (cp : Array Value) (w : World) (hA : Cells w A 10 n (flgAt F)) (hAB : ∀ a, A = some a → a.block ≠ B) (hchk : ∀ k, k < n → chkF (F k) = 0)
    (hblk : Blk w B 73 #[.slice A n c, .int .i64 (a0 : Int), .bool e0, .slice none 0 0]) (hans : AnsIs fa cp n N ans w B) (heg : ∀ args w, (callFunc fa args).run Tryd.prog w = .ok (.enter fa args) w) :
    CallsIn Fence.wide 3 Tryd.prog 46 #[.pointer (some ⟨B, 0, none⟩), .func (.func fa) #[] cp] w fun e W' => e = .returned (.tuple #[]) ∧ ∃ i v, i ≤ N ∧ Halt F n ans a0 i ∧ Good F n ans a0 i ∧
      Blk W' B 73 #[.slice A n c, .int .i64 (atN F n ans a0 i : Int), .bool (enN F n ans a0 e0 i), v] ∧ W'.ownsRow w.heap.size 3 1 v i (intL (triedN F n ans a0 i)) ∧ w.grownBy W' (some B) := by
  have hBw := hblk.lt
  have H := Lib.hid (And.intro hA (And.intro hAB (And.intro hchk (And.intro hblk (And.intro hans hstop)))))
  clear hA hAB hchk hblk hans hstop
  refine callsIn_of_wp_marks Tryd.func46 rfl trivial ?_ rfl
  simp only [Tryd.ntmps46, List.size_toArray, List.length_cons, List.length_nil, Nat.reduceAdd, Nat.reduceSub, Array.replicate_succ, Array.replicate_zero, List.push_toArray, List.append_toArray, List.nil_append, List.cons_append]
  gi_wp2_with (fail)
  refine ⟨trivial, (ptries_in _ B fa cp _).mono ?_⟩
  rintro e w' ⟨rfl, hw'⟩
  obtain ⟨w0, hw0⟩ : ∃ w0, w0 = w' := ⟨_, rfl⟩
  rw [World.size_alloc]
  have hsz : w0.heap.size = w.heap.size + 3 := by rw [hw0, hw']; simp
  have hw0n : w.grownBy w0 (some B) := by rw [hw0, hw']; exact only_alloc (only_alloc (only_alloc (only_refl w _) _) _) _
  have hb2 : Blk w0 w.heap.size 71 #[.pointer (some ⟨B, 0, none⟩)] := by rw [hw0, hw']; exact ((Blk.new _ _ _).alloc _).alloc _
  have hb3 : Blk w0 (w.heap.size + 1) 71 #[.pointer (some ⟨B, 0, none⟩)] := by rw [hw0, hw']; exact (blk_at (by simp)).alloc _
  have hb4 : Blk w0 (w.heap.size + 1 + 1) 75 #[.func (.func fa) #[] cp] := by rw [hw0, hw']; exact blk_at (by simp)
  have hb5 : Blk w0 B 73 #[.slice A n c, .int .i64 (a0 : Int), .bool e0, .slice none 0 0] := by rw [hw0, hw']; exact ((H.out.2.2.2.1.alloc _).alloc _).alloc _
  have hA0 := H.out.1.grown hw0n (by rintro a k e1 e2; cases e2; exact H.out.2.1 _ e1)
  rw [← hw0]
  have H0 := Lib.hid (And.intro hsz (And.intro hw0n (And.intro hb2 (And.intro hb3 (And.intro hb4 (And.intro hb5 hA0))))))
  clear hw' hw0 hw0n hb2 hb3 hb4 hb5 hA0
  gi_wp2_with (fail)
  have hB0 : B < w0.heap.size := by omega
  refine wpIn_range_state rfl (by decide) (gf := 61) (lb := #[.pointer (some ⟨w.heap.size + 1, 0, none⟩), .pointer (some ⟨w.heap.size + 1 + 1, 0, none⟩)]) rfl trivial (enters_of Tryd.func61 (by kernel_rfl) rfl) (encs := encN) (fun _ => rfl)
    (StJ F n ans a0 e0 w0 B A c N) (StZ F n ans a0 e0 w0 B A c N) (StY F n ans a0 e0 w0 B A c N) ?hJ ?hY ?hZ ?hstart
    (fun x => { tmps := #[.pointer (some ⟨B, 0, none⟩), .func (.func fa) #[] cp, .pointer (some ⟨w.heap.size, 0, none⟩), undef, .int .i64 (x : Int), .pointer (some ⟨B, 0, none⟩), .func (.func fa) #[] cp, .func (.func 61) #[] #[.pointer (some ⟨w.heap.size + 1, 0, none⟩), .pointer (some ⟨w.heap.size + 1 + 1, 0, none⟩)], .int .i64 (x : Int), undef, undef, undef, undef], defers := [] }) ?hit ?assign ?body ?done
  case hJ =>
    rintro xs W l r r' ⟨i, h1, h2, h3, h4⟩ hl hr
    exact ⟨i, h1, h2, h3, trial_put h4 hB0 (by omega) hr rfl⟩
  case hY =>
    rintro xs x W l r r' ⟨i, h1, h2, h3, h4, h5⟩ hl hr
    exact ⟨i, h1, h2, h3, h4, trial_put h5 hB0 (by omega) hr rfl⟩
  case hZ =>
    rintro xs W l r r' ⟨i, h1, h2, h3, h4, h5⟩ hl hr
    exact ⟨i, h1, h2, h3, h4, trial_put h5 hB0 (by omega) hr rfl⟩
  case hstart =>
    intro o o'
    exact ⟨0, Nat.zero_le _, rfl, fun j hj => absurd hj (by omega), trial_alloc (trial_alloc ⟨_, H0.out.2.2.2.2.2.1, World.ownsRow_nil _ _ _ _, only_refl _ _⟩ o) o'⟩
  case hit =>
    intro l R hR hY W h0 hRW
    exact titer _ (by decide) F n c hn A ans a0 e0 ha0 he0 N hN H.out.2.2.2.2.2 l B (w.heap.size + 1) (w.heap.size + 1 + 1) fa cp 75 w0 hB0 H0.out.2.2.2.2.2.2 H.out.2.1 H.out.2.2.1 H0.out.2.2.2.1 H0.out.2.2.2.2.1 (by omega) (by omega)
      (fun W r i hg => H.out.2.2.2.2.1 W r i (only_trans H0.out.2.1 hg)) heg R hR hY W h0 hRW
  case assign =>
    intro l x W K hK
    unfold encN
    gi_wp2
    exact hK
  case body =>
    rintro l pre x W ⟨i, hi, rfl, rfl, hg, ht⟩
    have hbx : Blk W w.heap.size 71 #[.pointer (some ⟨B, 0, none⟩)] := by
      obtain ⟨v, _, _, hgr⟩ := ht
      exact H0.out.2.2.1.grown hgr (by intro e; cases e; omega)
    have d0 := hbx.cell' (i := 0) rfl
    have hw1 := hbx.lt
    have HT := Lib.hid (And.intro hg ht)
    clear hg ht hbx
    generalize hx : atN F n ans a0 i = x
    gi_wp2_with (fail)
    have hn0 := trial_alloc HT.out.2 (.cells #[.int .i64 (x : Int)] 3)
    refine ⟨trivial, (callsIn_wide.2 (pnote w0 B A n c _ _ _ x W.heap.size _ hB0 (by rw [triedN_len]; omega) hn0 (Blk.new _ _ _))).mono ?_⟩
    rintro e W2 ⟨rfl, ht2, hk2⟩
    have H2 := Lib.hid (And.intro ht2 ((KeepsOthers.alloc W _).trans hk2))
    clear hn0 ht2 hk2
    gi_wp2
    refine ⟨H2.out.2.from _, i + 1, by omega, by rw [triedN_succ, hx], HT.out.1, ?_⟩
    rw [triedN_succ, hx]
    exact H2.out.1
  case done =>
    rintro D xs W hD ⟨i, hi, rfl, hh, hg, v, h1, h2, h3⟩ hK
    have HZ := Lib.hid (And.intro hh (And.intro hg (And.intro h1 (And.intro h2 h3))))
    clear hh hg h1 h2 h3
    gi_wp2
    refine ⟨by simp, .inl ⟨_, _, rfl, run_takeDeferred hK, ?_⟩⟩
    obtain ⟨v', q1, q2, q3⟩ := trial_put (o' := .deferred none) ⟨v, HZ.out.2.2.1, HZ.out.2.2.2.1, HZ.out.2.2.2.2⟩ hB0 (by omega) hK rfl
    rw [triedN_len] at q2
    exact ⟨_, results_none rfl _ _ _, rfl, i, v', hi, HZ.out.1, HZ.out.2.1, q1, own_weaken q2 (by omega), only_trans H0.out.2.1 q3⟩
end Go.Proofs.YtjkmkpehnnkpiaaDoor
