/-
  Copies: append([]T{}, l...); waypostkit.OwnInts and OwnGraph, the law's large, walked; conditions: at most 1000000 entries.
-/
import Derived.Test.YtjgkiiohbceocaaSdI
import Derived.Deep.AppendSrc
import Derived.Deep.Upon
import Derived.Lib.AppendZeros
namespace Go.Proofs.Ytjgkiiohbceocaa
open Go.RowKit Go.Shelf
set_option linter.unusedVariables false
set_option linter.unusedSimpArgs false

theorem edAt_one (l : List Edg) : ∀ i j, (edAt l i j).oneCell' = true := by
  intro i j
  unfold edAt
  cases l[i]? with
  | none => rfl
  | some d =>
    match j with
    | 0 => rfl
    | 1 => rfl
    | _ + 2 => rfl
theorem intsAt_one (l : List Int) : ∀ i j, (intsAt l i j).oneCell' = true := fun _ _ => rfl
/-- The copy, in new memory. -/
theorem copy_cells {tS tE : TypeId} {z : Value} {sz bt : Nat} (hu : Try.prog.underlying tS = some (.slice tE)) (hinfo : (Try.prog.info? tE).map (fun i => (i.zero, i.size, i.bytes)) = some (some z, sz, bt)) (hz : z.cells.size = sz) (hsz : 0 < sz) (hs2 : sz ≤ 2) (hb : bt ≤ 24)
    (f : Nat → Nat → Value) (h1 : ∀ i j, (f i j).oneCell' = true) (A : Option Addr) (n c : Nat) (hn : n ≤ 1000000) (w : World) (g : Nat) (hg : Blk w g tE #[]) (hA : n = 0 → True) (hc : Cells w A sz n f) :
    ∃ B d w', (Builtin.append_ #[tS, tS] tS #[.slice (some ⟨g, 0, none⟩) 0 0, .slice A n c]).run Try.prog w = .ok (.slice B n d) w' ∧ Cells w' B sz n f ∧ Below w.heap.size w w' ∧ ∀ b o, B = some ⟨b, o, none⟩ → 0 < n → w.heap.size ≤ b := by
  obtain ⟨i1, hi1, hz10, hz11, hz12⟩ := info_parts hinfo
  by_cases h0 : n = 0
  · subst h0
    have hs : Src Try.prog i1.size tS (.slice A 0 c) 0 [] w := by
      cases A with
      | none => exact Src.ofNil w hu c
      | some a => exact Src.ofSlice w hu a 0 c [] (by simp) (by intro j u hj; simp at hj) (by intro u hu; cases hu)
    exact ⟨some ⟨g, 0, none⟩, 0, w, run_append_nothing w tS tS tS tE i1 hu hi1 _ 0 0 (Nat.le_refl _) _ hs, fun h => absurd h (by decide), Below.refl _ _, fun b o _ h => absurd h (by decide)⟩
  · have hn0 : 0 < n := by omega
    obtain ⟨b, off, rfl, hbl, hcl⟩ := hc hn0
    have hs : Src Try.prog i1.size tS (.slice (some ⟨b, off, none⟩) n c) n (flatC f sz n) w := by
      refine Src.ofSlice w hu _ n c _ (by rw [flatC_len, hz11]) (fun j u hj => ?_) (fun u hu => ?_)
      · have hjl : j < n * sz := by
          have := (List.getElem?_eq_some_iff.1 hj).1
          rwa [flatC_len] at this
        rw [flatC_at f sz n j hjl] at hj
        have hd : j / sz < n := Nat.div_lt_of_lt_mul (by rw [Nat.mul_comm]; exact hjl)
        have h1 := hcl (j / sz) (j % sz) hd (Nat.mod_lt _ hsz)
        have ej : off + j / sz * sz + j % sz = off + j := by
          have := Nat.div_add_mod' j sz
          omega
        rw [ej] at h1
        rw [Addr.add_lit, h1]
        exact hj
      · obtain ⟨t', _, rfl⟩ := List.mem_map.1 hu
        exact h1 _ _
    have hr := run_append_grow_src (P := Try.prog) w tS tS tS tE i1 z hu hi1 hz10 (some ⟨g, 0, none⟩) 0 0 [] (by rw [hz11]; exact run_firstCells_some w.drew sz 0 _ 0 0 [] (by simp) (by intro j u hj; simp at hj)) _ n _ hs (by omega) (by omega) (by rw [Nat.zero_add, nextslicecap_zero hn0, hz12]; have : n * bt ≤ 1000000 * 24 := Nat.mul_le_mul hn hb; omega)
    rw [Nat.zero_add] at hr
    have hnew := Blk.new w.drew tE (([] ++ flatC f sz n).toArray ++ Builtin.zeroCells z.cells (grownCap w n 0 tE - n))
    refine ⟨some ⟨w.heap.size, 0, none⟩, _, _, hr, fun _ => ⟨_, _, rfl, by simp, fun i j hi hj => ?_⟩, gr_alloc (gr_drew (Below.refl _ _)) _, fun b' o' hb' _ => by cases hb'; exact Nat.le_refl _⟩
    have hlt := row_lt hi hj
    rw [Nat.zero_add]
    refine (hnew.cell (i * sz + j)).trans ?_
    rw [Array.getElem?_append_left (by simpa [flatC_len] using hlt)]
    have h1 := flatC_at f sz n (i * sz + j) hlt
    rw [show (i * sz + j) / sz = i by rw [Nat.mul_comm, Nat.mul_add_div hsz, Nat.div_eq_of_lt hj, Nat.add_zero], show (i * sz + j) % sz = j by rw [Nat.mul_comm, Nat.mul_add_mod, Nat.mod_eq_of_lt hj]] at h1
    simpa using h1
set_option maxRecDepth 100000 in
set_option maxHeartbeats 1000000 in
theorem own_ints (l : List Int) (A : Option Addr) (c : Nat) (hl : l.length ≤ 1000000) (w : World) (hc : Cells w A 1 l.length (intsAt l)) :
    Calls Try.prog 12 #[.slice A l.length c] w fun e w' => ∃ B d, e = .returned (.slice B l.length d) ∧ Cells w' B 1 l.length (intsAt l) ∧ Below w.heap.size w w' := by
  obtain ⟨B, d, w2, hrun, hcl, hbl, _⟩ := copy_cells (tS := 25) (tE := 3) (z := .int .i64 0) (sz := 1) (bt := 8) Try.underlying25 infoInt rfl (by decide) (by decide) (by decide) (intsAt l) (intsAt_one l) A l.length c hl (w.alloc (.cells #[] 3)) w.heap.size (Blk.new w 3 #[]) (fun _ => trivial) (hc.below (gr_alloc (Below.refl _ _) _))
  obtain ⟨n, hn⟩ : ∃ n, n = l.length := ⟨_, rfl⟩
  rw [← hn] at hrun hcl ⊢
  have hb2 := gr_call (gr_alloc (Below.refl w.heap.size w) (.cells #[] 3)) hbl
  have H := Lib.hid (And.intro hrun (And.intro hcl hb2))
  clear hrun hcl hbl hb2 hc hn hl
  go_enter Try.func12, Try.ntmps12
  go_wp2_with (at_builtin; refine Lib.wpList_append_run _ rfl _ _ 25 25 rfl _ _ rfl rfl _ _ H.out.1 ?_)
  go_ret
  exact ⟨_, _, rfl, H.out.2.1, H.out.2.2⟩
set_option maxRecDepth 100000 in
set_option maxHeartbeats 1000000 in
theorem own_graph (k : Int) (l : List Edg) (A : Option Addr) (c : Nat) (hl : l.length ≤ 1000000) (w : World) (hc : Cells w A 2 l.length (edAt l)) :
    Calls Try.prog 11 #[.agg #[.int .i64 k, .slice A l.length c]] w fun e w' => ∃ B d, e = .returned (.agg #[.int .i64 k, .slice B l.length d]) ∧ Cells w' B 2 l.length (edAt l) ∧ Below w.heap.size w w' := by
  have b0 := gr_alloc (gr_alloc (Below.refl w.heap.size w) (.cells #[.int .i64 k, .slice A l.length c] 24)) (.cells #[.int .i64 0, .slice none 0 0] 24)
  have b1 := gr_drew (gr_alloc b0 (.cells #[] 57))
  obtain ⟨B, d, w2, hrun, hcl, hbl, hnew⟩ := copy_cells (tS := 22) (tE := 57) (z := .agg #[.int .i64 0, .int .i64 0]) (sz := 2) (bt := 16) Try.underlying22 infoEdge rfl (by decide) (by decide) (by decide) (edAt l) (edAt_one l) A l.length c hl
    ((((w.alloc (.cells #[.int .i64 k, .slice A l.length c] 24)).alloc (.cells #[.int .i64 0, .slice none 0 0] 24)).alloc (.cells #[] 57)).drew) (w.heap.size + 2) (Blk.drew (blk_at (by simp))) (fun _ => trivial) (hc.below b1)
  have k0 : Blk ((w.alloc (.cells #[.int .i64 k, .slice A l.length c] 24)).alloc (.cells #[.int .i64 0, .slice none 0 0] 24)) w.heap.size 24 #[.int .i64 k, .slice A l.length c] := (Blk.new w _ _).alloc _
  have k1 : Blk ((w.alloc (.cells #[.int .i64 k, .slice A l.length c] 24)).alloc (.cells #[.int .i64 0, .slice none 0 0] 24)) (w.heap.size + 1) 24 #[.int .i64 0, .slice none 0 0] := blk_at (by simp)
  have k1b := ((k1.alloc (.cells #[] 57)).drew).call hbl
  have f0 := k1b.frozen 0
  have f1 := k1b.frozen 1
  have g0 := k1b.cell' (i := 0) rfl
  have g1 := k1b.cell' (i := 1) rfl
  have lg := k1b.lt
  have r0 := k0.cell' (i := 0) rfl
  have r1 := k0.cell' (i := 1) rfl
  have b2 := gr_call b1 hbl
  have k0b := ((k0.alloc (.cells #[] 57)).drew).call hbl
  have k0z := (k0b.far (p := ⟨w.heap.size + 1, 0, none⟩) (by show w.heap.size ≠ w.heap.size + 1; omega) (.int .i64 k)).far (p := ⟨w.heap.size + 1, 1, none⟩) (by show w.heap.size ≠ w.heap.size + 1; omega) (.slice B l.length d)
  have z0 := k0z.cell' (i := 0) rfl
  have k1z := (k1b.set_ 0 (.int .i64 k)).set_ 1 (.slice B l.length d)
  have e0 := k1z.cell' (i := 0) rfl
  have e1 := k1z.cell' (i := 1) rfl
  have le := k1z.lt
  have z1 := k0z.cell' (i := 1) rfl
  have s0 := k0b.cell' (i := 0) rfl
  have s1 := k0b.cell' (i := 1) rfl
  obtain ⟨n, hn⟩ : ∃ n, n = l.length := ⟨_, rfl⟩
  rw [← hn] at hrun hcl hbl hnew r0 r1 s0 s1 z0 z1 e0 e1 le ⊢
  have H := Lib.hid (And.intro hrun (And.intro hcl (And.intro hbl (And.intro b2 (And.intro k1b hnew)))))
  clear hnew hrun hcl hbl hc hn hl b1 k0 k1 b0 b2 k1b k0b k0z k1z
  go_enter Try.func11, Try.ntmps11
  go_wp2_with (fail)
  go_region_held_law (fun w' => w'.cell? ⟨w.heap.size, 0, none⟩ = some (.int .i64 k) ∧ w'.cell? ⟨w.heap.size, 1, none⟩ = some (.slice A n c))
    (first
      | assumption
      | (go_split_ands
         try simp only [World.cell?_drew]
         refine ⟨?_, ?_⟩ <;> first | assumption | (rw [World.cell?_alloc_lt _ _ _ (by simp; omega)]; assumption)))
    ((refine Lib.wp_append_run _ (.tmp 5) (.tmp 7) 22 22 rfl (.slice (some ⟨w.heap.size + 2, 0, none⟩) 0 0) (.slice A n c) (by rfl) (by rfl) _ _ H.out.1 ?_))
  all_goals
    go_wp2_with (fail)
    refine bodyPost_ret (v := .agg #[.int .i64 k, .slice B n d]) (by simp [results, Try.results11, go_sem, e0, e1, le]) rfl ⟨_, _, rfl, ?_, ?_⟩
    · refine fun hn => ?_
      obtain ⟨b, o, hB, hlt, hcc⟩ := H.out.2.1 hn
      refine ⟨b, o, hB, by simpa using hlt, fun i j hi hj => ?_⟩
      have hbb := H.out.2.2.2.2.2 b o hB hn
      have hb3 : w.heap.size + 1 ≠ b := by simp at hbb; omega
      rw [World.cell?_setCell_far _ _ _ _ (by exact hb3), World.cell?_setCell_far _ _ _ _ (by exact hb3)]
      exact hcc i j hi hj
    · exact gr_set (gr_set H.out.2.2.2.1 (by simp) _) (by simp) _
set_option maxRecDepth 100000 in
set_option maxHeartbeats 1000000 in
theorem large_law (n : Int) (l : List Edg) (A : Option Addr) (c : Nat) (w : World) :
    Calls Try.prog 9 #[.agg #[.int .i64 n, .slice A l.length c]] w fun e w' => e = .returned (.bool (decide (200 < l.length))) ∧ Below w.heap.size w w' := by
  have b0 := gr_alloc (Below.refl w.heap.size w) (.cells #[.int .i64 n, .slice A l.length c] 24)
  have k0 := Blk.new w 24 #[.int .i64 n, .slice A l.length c]
  have c1 := k0.cell' (i := 1) rfl
  obtain ⟨m, hm⟩ : ∃ m, m = l.length := ⟨_, rfl⟩
  rw [← hm] at b0 c1 ⊢
  have H := Lib.hid b0
  clear b0 k0 hm
  go_enter Try.func9, Try.ntmps9
  go_wp2_with (fail)
  go_ret
  refine ⟨?_, H.out⟩
  have : decide ((m : Int) > 200) = decide (200 < m) := by rw [Bool.eq_iff_iff, decide_eq_true_eq, decide_eq_true_eq]; omega
  first | exact ret_bool this | (rw [← this]; rfl)
end Go.Proofs.Ytjgkiiohbceocaa
