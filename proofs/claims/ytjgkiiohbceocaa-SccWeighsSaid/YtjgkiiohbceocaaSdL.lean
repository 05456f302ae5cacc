/-
  Copies: append([]T{}, l...); waypostkit.OwnInts and OwnGraph, the law's large, walked; conditions: at most 1000000 entries.
  The law's graph and shown, walked; no condition but the size.
  The law's awake, walked; no condition.
-/
import Derived.Test.YtjgkiiohbceocaaSdI
import Derived.Deep.AppendSrc
import Derived.Deep.Upon
import Derived.Lib.AppendZeros
namespace Go.Proofs.Ytjgkiiohbceocaa
open Go.RowKit Go.Shelf
set_option linter.unusedVariables false
set_option linter.unusedSimpArgs false

theorem edAt_one (l : List Edg) : ∀ i j, (edAt l i j).oneCell' = true := by
  intro i j
  unfold edAt
  cases l[i]? with
  | none => rfl
  | some d =>
    match j with
    | 0 => rfl
    | 1 => rfl
    | _ + 2 => rfl
theorem intsAt_one (l : List Int) : ∀ i j, (intsAt l i j).oneCell' = true := fun _ _ => rfl
/-- The copy, in new memory. -/
theorem copy_cells {tS tE : TypeId} {z : Value} {sz bt : Nat} (hu : Try.prog.underlying tS = some (.slice tE)) (hinfo : (Try.prog.info? tE).map (fun i => (i.zero, i.size, i.bytes)) = some (some z, sz, bt)) (hz : z.cells.size = sz) (hsz : 0 < sz) (hs2 : sz ≤ 2) (hb : bt ≤ 24)
    (f : Nat → Nat → Value) (h1 : ∀ i j, (f i j).oneCell' = true) (A : Option Addr) (n c : Nat) (hn : n ≤ 1000000) (w : World) (g : Nat) (hg : Blk w g tE #[]) (hA : n = 0 → True) (hc : Cells w A sz n f) :
    ∃ B d w', (Builtin.append_ #[tS, tS] tS #[.slice (some ⟨g, 0, none⟩) 0 0, .slice A n c]).run Try.prog w = .ok (.slice B n d) w' ∧ Cells w' B sz n f ∧ Below w.heap.size w w' ∧ ∀ b o, B = some ⟨b, o, none⟩ → 0 < n → w.heap.size ≤ b := by
  obtain ⟨i1, hi1, hz10, hz11, hz12⟩ := info_parts hinfo
  by_cases h0 : n = 0
  · subst h0
    have hs : Src Try.prog i1.size tS (.slice A 0 c) 0 [] w := by
      cases A with
      | none => exact Src.ofNil w hu c
      | some a => exact Src.ofSlice w hu a 0 c [] (by simp) (by intro j u hj; simp at hj) (by intro u hu; cases hu)
    exact ⟨some ⟨g, 0, none⟩, 0, w, run_append_nothing w tS tS tS tE i1 hu hi1 _ 0 0 (Nat.le_refl _) _ hs, fun h => absurd h (by decide), Below.refl _ _, fun b o _ h => absurd h (by decide)⟩
  · have hn0 : 0 < n := by omega
    obtain ⟨b, off, rfl, hbl, hcl⟩ := hc hn0
    have hs : Src Try.prog i1.size tS (.slice (some ⟨b, off, none⟩) n c) n (flatC f sz n) w := by
      refine Src.ofSlice w hu _ n c _ (by rw [flatC_len, hz11]) (fun j u hj => ?_) (fun u hu => ?_)
      · have hjl : j < n * sz := by
          have := (List.getElem?_eq_some_iff.1 hj).1
          rwa [flatC_len] at this
        rw [flatC_at f sz n j hjl] at hj
        have hd : j / sz < n := Nat.div_lt_of_lt_mul (by rw [Nat.mul_comm]; exact hjl)
        have h1 := hcl (j / sz) (j % sz) hd (Nat.mod_lt _ hsz)
        have ej : off + j / sz * sz + j % sz = off + j := by
          have := Nat.div_add_mod' j sz
          omega
        rw [ej] at h1
        rw [Addr.add_lit, h1]
        exact hj
      · obtain ⟨t', _, rfl⟩ := List.mem_map.1 hu
        exact h1 _ _
    have hr := run_append_grow_src (P := Try.prog) w tS tS tS tE i1 z hu hi1 hz10 (some ⟨g, 0, none⟩) 0 0 [] (by rw [hz11]; exact run_firstCells_some w.drew sz 0 _ 0 0 [] (by simp) (by intro j u hj; simp at hj)) _ n _ hs (by omega) (by omega) (by rw [Nat.zero_add, nextslicecap_zero hn0, hz12]; have : n * bt ≤ 1000000 * 24 := Nat.mul_le_mul hn hb; omega)
    rw [Nat.zero_add] at hr
    have hnew := Blk.new w.drew tE (([] ++ flatC f sz n).toArray ++ Builtin.zeroCells z.cells (grownCap w n 0 tE - n))
    refine ⟨some ⟨w.heap.size, 0, none⟩, _, _, hr, fun _ => ⟨_, _, rfl, by simp, fun i j hi hj => ?_⟩, gr_alloc (gr_drew (Below.refl _ _)) _, fun b' o' hb' _ => by cases hb'; exact Nat.le_refl _⟩
    have hlt := row_lt hi hj
    rw [Nat.zero_add]
    refine (hnew.cell (i * sz + j)).trans ?_
    rw [Array.getElem?_append_left (by simpa [flatC_len] using hlt)]
    have h1 := flatC_at f sz n (i * sz + j) hlt
    rw [show (i * sz + j) / sz = i by rw [Nat.mul_comm, Nat.mul_add_div hsz, Nat.div_eq_of_lt hj, Nat.add_zero], show (i * sz + j) % sz = j by rw [Nat.mul_comm, Nat.mul_add_mod, Nat.mod_eq_of_lt hj]] at h1
    simpa using h1
set_option maxRecDepth 100000 in
set_option maxHeartbeats 1000000 in
theorem own_ints (l : List Int) (A : Option Addr) (c : Nat) (hl : l.length ≤ 1000000) (w : World) (hc : Cells w A 1 l.length (intsAt l)) :
    Calls Try.prog 12 #[.slice A l.length c] w fun e w' => ∃ B d, e = .returned (.slice B l.length d) ∧ Cells w' B 1 l.length (intsAt l) ∧ Below w.heap.size w w' := by
  obtain ⟨B, d, w2, hrun, hcl, hbl, _⟩ := copy_cells (tS := 25) (tE := 3) (z := .int .i64 0) (sz := 1) (bt := 8) Try.underlying25 infoInt rfl (by decide) (by decide) (by decide) (intsAt l) (intsAt_one l) A l.length c hl (w.alloc (.cells #[] 3)) w.heap.size (Blk.new w 3 #[]) (fun _ => trivial) (hc.below (gr_alloc (Below.refl _ _) _))
  obtain ⟨n, hn⟩ : ∃ n, n = l.length := ⟨_, rfl⟩
  rw [← hn] at hrun hcl ⊢
  have hb2 := gr_call (gr_alloc (Below.refl w.heap.size w) (.cells #[] 3)) hbl
  have H := Lib.hid (And.intro hrun (And.intro hcl hb2))
  clear hrun hcl hbl hb2 hc hn hl
  go_enter Try.func12, Try.ntmps12
  go_wp2_with (at_builtin; refine Lib.wpList_append_run _ rfl _ _ 25 25 rfl _ _ rfl rfl _ _ H.out.1 ?_)
  go_ret
  exact ⟨_, _, rfl, H.out.2.1, H.out.2.2⟩
set_option maxRecDepth 100000 in
set_option maxHeartbeats 1000000 in
theorem own_graph (k : Int) (l : List Edg) (A : Option Addr) (c : Nat) (hl : l.length ≤ 1000000) (w : World) (hc : Cells w A 2 l.length (edAt l)) :
    Calls Try.prog 11 #[.agg #[.int .i64 k, .slice A l.length c]] w fun e w' => ∃ B d, e = .returned (.agg #[.int .i64 k, .slice B l.length d]) ∧ Cells w' B 2 l.length (edAt l) ∧ Below w.heap.size w w' := by
  have b0 := gr_alloc (gr_alloc (Below.refl w.heap.size w) (.cells #[.int .i64 k, .slice A l.length c] 24)) (.cells #[.int .i64 0, .slice none 0 0] 24)
  have b1 := gr_drew (gr_alloc b0 (.cells #[] 57))
  obtain ⟨B, d, w2, hrun, hcl, hbl, hnew⟩ := copy_cells (tS := 22) (tE := 57) (z := .agg #[.int .i64 0, .int .i64 0]) (sz := 2) (bt := 16) Try.underlying22 infoEdge rfl (by decide) (by decide) (by decide) (edAt l) (edAt_one l) A l.length c hl
    ((((w.alloc (.cells #[.int .i64 k, .slice A l.length c] 24)).alloc (.cells #[.int .i64 0, .slice none 0 0] 24)).alloc (.cells #[] 57)).drew) (w.heap.size + 2) (Blk.drew (blk_at (by simp))) (fun _ => trivial) (hc.below b1)
  have k0 : Blk ((w.alloc (.cells #[.int .i64 k, .slice A l.length c] 24)).alloc (.cells #[.int .i64 0, .slice none 0 0] 24)) w.heap.size 24 #[.int .i64 k, .slice A l.length c] := (Blk.new w _ _).alloc _
  have k1 : Blk ((w.alloc (.cells #[.int .i64 k, .slice A l.length c] 24)).alloc (.cells #[.int .i64 0, .slice none 0 0] 24)) (w.heap.size + 1) 24 #[.int .i64 0, .slice none 0 0] := blk_at (by simp)
  have k1b := ((k1.alloc (.cells #[] 57)).drew).call hbl
  have f0 := k1b.frozen 0
  have f1 := k1b.frozen 1
  have g0 := k1b.cell' (i := 0) rfl
  have g1 := k1b.cell' (i := 1) rfl
  have lg := k1b.lt
  have r0 := k0.cell' (i := 0) rfl
  have r1 := k0.cell' (i := 1) rfl
  have b2 := gr_call b1 hbl
  have k0b := ((k0.alloc (.cells #[] 57)).drew).call hbl
  have k0z := (k0b.far (p := ⟨w.heap.size + 1, 0, none⟩) (by show w.heap.size ≠ w.heap.size + 1; omega) (.int .i64 k)).far (p := ⟨w.heap.size + 1, 1, none⟩) (by show w.heap.size ≠ w.heap.size + 1; omega) (.slice B l.length d)
  have z0 := k0z.cell' (i := 0) rfl
  have k1z := (k1b.set_ 0 (.int .i64 k)).set_ 1 (.slice B l.length d)
  have e0 := k1z.cell' (i := 0) rfl
  have e1 := k1z.cell' (i := 1) rfl
  have le := k1z.lt
  have z1 := k0z.cell' (i := 1) rfl
  have s0 := k0b.cell' (i := 0) rfl
  have s1 := k0b.cell' (i := 1) rfl
  obtain ⟨n, hn⟩ : ∃ n, n = l.length := ⟨_, rfl⟩
  rw [← hn] at hrun hcl hbl hnew r0 r1 s0 s1 z0 z1 e0 e1 le ⊢
  have H := Lib.hid (And.intro hrun (And.intro hcl (And.intro hbl (And.intro b2 (And.intro k1b hnew)))))
  clear hnew hrun hcl hbl hc hn hl b1 k0 k1 b0 b2 k1b k0b k0z k1z
  go_enter Try.func11, Try.ntmps11
  go_wp2_with (fail)
  go_region_held_law (fun w' => w'.cell? ⟨w.heap.size, 0, none⟩ = some (.int .i64 k) ∧ w'.cell? ⟨w.heap.size, 1, none⟩ = some (.slice A n c))
    (first
      | assumption
      | (go_split_ands
         try simp only [World.cell?_drew]
         refine ⟨?_, ?_⟩ <;> first | assumption | (rw [World.cell?_alloc_lt _ _ _ (by simp; omega)]; assumption)))
    ((refine Lib.wp_append_run _ (.tmp 5) (.tmp 7) 22 22 rfl (.slice (some ⟨w.heap.size + 2, 0, none⟩) 0 0) (.slice A n c) (by rfl) (by rfl) _ _ H.out.1 ?_))
  all_goals
    go_wp2_with (fail)
    refine bodyPost_ret (v := .agg #[.int .i64 k, .slice B n d]) (by simp [results, Try.results11, go_sem, e0, e1, le]) rfl ⟨_, _, rfl, ?_, ?_⟩
    · refine fun hn => ?_
      obtain ⟨b, o, hB, hlt, hcc⟩ := H.out.2.1 hn
      refine ⟨b, o, hB, by simpa using hlt, fun i j hi hj => ?_⟩
      have hbb := H.out.2.2.2.2.2 b o hB hn
      have hb3 : w.heap.size + 1 ≠ b := by simp at hbb; omega
      rw [World.cell?_setCell_far _ _ _ _ (by exact hb3), World.cell?_setCell_far _ _ _ _ (by exact hb3)]
      exact hcc i j hi hj
    · exact gr_set (gr_set H.out.2.2.2.1 (by simp) _) (by simp) _
set_option maxRecDepth 100000 in
set_option maxHeartbeats 1000000 in
theorem large_law (n : Int) (l : List Edg) (A : Option Addr) (c : Nat) (w : World) :
    Calls Try.prog 9 #[.agg #[.int .i64 n, .slice A l.length c]] w fun e w' => e = .returned (.bool (decide (200 < l.length))) ∧ Below w.heap.size w w' := by
  have b0 := gr_alloc (Below.refl w.heap.size w) (.cells #[.int .i64 n, .slice A l.length c] 24)
  have k0 := Blk.new w 24 #[.int .i64 n, .slice A l.length c]
  have c1 := k0.cell' (i := 1) rfl
  obtain ⟨m, hm⟩ : ∃ m, m = l.length := ⟨_, rfl⟩
  rw [← hm] at b0 c1 ⊢
  have H := Lib.hid b0
  clear b0 k0 hm
  go_enter Try.func9, Try.ntmps9
  go_wp2_with (fail)
  go_ret
  refine ⟨?_, H.out⟩
  have : decide ((m : Int) > 200) = decide (200 < m) := by rw [Bool.eq_iff_iff, decide_eq_true_eq, decide_eq_true_eq]; omega
  first | exact ret_bool this | (rw [← this]; rfl)
end Go.Proofs.Ytjgkiiohbceocaa
namespace Go.Proofs.Ytjgkiiohbceocaa
open Go.RowKit
set_option linter.unusedVariables false
set_option linter.unusedSimpArgs false

/-- The pairs of a list. -/
def prsN (ns : List Nat) (k : Nat) : List (Nat × Nat) := (List.range k).map fun j => ((ns[2 * j]?).getD 0, (ns[2 * j + 1]?).getD 0)
theorem prsN_succ (ns : List Nat) (k : Nat) : prsN ns (k + 1) = prsN ns k ++ [((ns[2 * k]?).getD 0, (ns[2 * k + 1]?).getD 0)] := by
  unfold prsN; rw [List.range_succ, List.map_append]; rfl
theorem prsN_len (ns : List Nat) (k : Nat) : (prsN ns k).length = k := by simp [prsN]

set_option maxRecDepth 100000 in
set_option maxHeartbeats 4000000 in
theorem graph_law (n : Nat) (ns : List Nat) (hl : ns.length ≤ 1000) (v : Value) (w : World) (hv : NatsAt w v ns) :
    Calls Try.prog 36 #[.int .i64 (n : Int), v] w fun e w' => ∃ u, e = .returned (.agg #[.int .i64 (n : Int), u]) ∧ OwnE w' w.heap.size u (prsN ns (ns.length / 2)) ∧ Below w.heap.size w w' := by
  obtain ⟨A, c, rfl, hA⟩ := hv.ex
  obtain ⟨i0, hi0, hz0, hz1, hz2⟩ := info_parts infoEdge
  obtain ⟨len, hlen⟩ : ∃ x, x = ns.length := ⟨_, rfl⟩
  have k0 : Blk ((w.alloc (.cells #[.int .i64 0, .slice none 0 0] 24)).alloc (.cells #[.int .i64 (n : Int), .slice none 0 0] 24)) w.heap.size 24 #[.int .i64 0, .slice none 0 0] := (Blk.new w _ _).alloc _
  have k1 : Blk ((w.alloc (.cells #[.int .i64 0, .slice none 0 0] 24)).alloc (.cells #[.int .i64 (n : Int), .slice none 0 0] 24)) (w.heap.size + 1) 24 #[.int .i64 (n : Int), .slice none 0 0] := blk_at (by simp)
  have b0 := gr_alloc (gr_alloc (Below.refl w.heap.size w) (.cells #[.int .i64 0, .slice none 0 0] 24)) (.cells #[.int .i64 (n : Int), .slice none 0 0] 24)
  have H := Lib.hid (And.intro k0 (And.intro k1 (And.intro b0 (And.intro hA hlen))))
  rw [← hlen] at hl ⊢
  clear k0 k1 b0 hA hv hlen
  go_enter Try.func36, Try.ntmps36
  go_wp2_with (fail)
  go_loopg [6] len (fun q iv wr => ∃ k vE, q = len - 2 * k ∧ 2 * k ≤ len ∧ iv = .int .i64 ((2 * k : Nat) : Int) ∧ Below w.heap.size w wr ∧ Blk wr (w.heap.size + 1) 24 #[.int .i64 (n : Int), vE] ∧ OwnE wr w.heap.size vE (prsN ns k) ∧ Blk wr w.heap.size 24 #[.int .i64 0, .slice none 0 0])
  case atStart => exact ⟨0, .slice none 0 0, rfl, Nat.zero_le _, rfl, H.out.2.2.1, H.out.2.1, ownE_nil _ _, H.out.1⟩
  case round =>
    obtain ⟨k, vE, hq, hk, rfl, hbel, hblk, hown, hz⟩ := hrel
    obtain ⟨i, hi⟩ : ∃ i, i = 2 * k := ⟨_, rfl⟩
    rw [← hi] at hq hk ⊢
    obtain ⟨j, hj⟩ : ∃ j, j = i + 1 := ⟨_, rfl⟩
    have w1 : IntKind.i64.wrap ((i : Int) + 1) = (j : Int) := (IntWalk.i64_in _ (by omega)).trans (by omega)
    have w2 : IntKind.i64.wrap ((i : Int) + 2) = ((2 * (k + 1) : Nat) : Int) := (IntWalk.i64_in _ (by omega)).trans (by omega)
    by_cases hkl : j < len
    · have hkI : (j : Int) < (len : Int) := by omega
      have hil : (i : Int) < (len : Int) := by omega
      obtain ⟨a, ha⟩ : ∃ a, ns[i]? = some a := ⟨_, List.getElem?_eq_getElem (by rw [← H.out.2.2.2.2]; omega)⟩
      obtain ⟨b, hb⟩ : ∃ b, ns[j]? = some b := ⟨_, List.getElem?_eq_getElem (by rw [← H.out.2.2.2.2]; omega)⟩
      obtain ⟨g, o, rfl, hg, hc⟩ := H.out.2.2.2.1 (fun e => by rw [e] at ha; simp at ha)
      have ca := (hbel.cell (p := ⟨g, o + i, none⟩) hg).trans (hc _ _ ha)
      have cb := (hbel.cell (p := ⟨g, o + j, none⟩) hg).trans (hc _ _ hb)
      have lg := Nat.lt_of_lt_of_le hg hbel.size
      have c1 := hblk.cell' (i := 1) rfl
      have f1 := hblk.frozen 1
      have l1 := hblk.lt
      have bz := hbel.size
      obtain ⟨pa, pc, hve⟩ := own_slice hown
      rw [prsN_len] at hve
      subst hve
      have hown0 : wr.ownsRow w.heap.size 57 2 (.slice pa k pc) k (prC (prsN ns k)) := by
        have h := hown
        unfold OwnE at h
        rw [prsN_len] at h
        exact h
      have ng1 : Value.ownBlock (.slice pa k pc) ≠ some (w.heap.size + 1) := fun e => own_blk_ne hown0 hblk (by decide) e.symm
      have ng : Value.ownBlock (.slice pa k pc) ≠ some g := fun e => by have := (hown0.lt g e).1; omega
      have n1 : g ≠ w.heap.size + 1 := by omega
      have hown2 := (hown0.alloc (.cells #[.int .i64 (a : Int), .int .i64 (b : Int)] 57)).drew
      have F := Lib.hid (And.intro hbel (And.intro hown0 (And.intro hq (And.intro (show a = (ns[2 * k]?).getD 0 by rw [← hi, ha]; rfl) (show b = (ns[2 * k + 1]?).getD 0 by rw [← hi, ← hj, hb]; rfl)))))
      have HI := Lib.hid (And.intro hi (And.intro hj hz))
      have ngz : Value.ownBlock (.slice pa k pc) ≠ some w.heap.size := fun e => own_blk_ne hown0 hz (by decide) e.symm
      clear hz
      have hk1000 : k ≤ 1000 := by omega
      clear hbel hown hown0 hq ha hb hc hi hj
      go_wp2_with (fail)
      refine wp_region_held_drew (S := (fun w' => w'.cell? ⟨g, o + i, none⟩ = some (.int .i64 (a : Int)) ∧ w'.cell? ⟨g, o + j, none⟩ = some (.int .i64 (b : Int)) ∧ w'.frozen? ⟨w.heap.size + 1, 1, none⟩ = false)) (by kernel_rfl) ⟨by simpa using ca, by simpa using cb, by simpa using f1⟩ (fun hHeld => ?_)
      refine wpAnyH_take (i := 0) (v := .pointer (some ⟨w.heap.size + 1, 1, none⟩)) rfl (by kernel_rfl) (by kernel_rfl) (by kernel_rfl) (fun _ _ _ h => h) (Or.inl ⟨by rfl, ?_⟩) (by assumption) ?_
      · intro wz hSw
        obtain ⟨hs0, hs1, hs2⟩ := hSw
        go_simp
      try simp only [Act.put, List.setIfInBounds_toArray, List.set_cons_zero, List.set_cons_succ]
      refine wpAnyH_take (i := 2) (v := .slice (some ⟨g, o, none⟩) len c) rfl (by kernel_rfl) (by kernel_rfl) (by kernel_rfl) (fun _ _ _ h => h) (Or.inl ⟨by rfl, ?_⟩) (by assumption) ?_
      · intro wz hSw
        obtain ⟨hs0, hs1, hs2⟩ := hSw
        go_simp
      try simp only [Act.put, List.setIfInBounds_toArray, List.set_cons_zero, List.set_cons_succ]
      refine wpAnyH_take (i := 3) (v := .int .i64 (i : Int)) rfl (by kernel_rfl) (by kernel_rfl) (by kernel_rfl) (fun _ _ _ h => h) (Or.inl ⟨by rfl, ?_⟩) (by assumption) ?_
      · intro wz hSw
        obtain ⟨hs0, hs1, hs2⟩ := hSw
        go_simp
      try simp only [Act.put, List.setIfInBounds_toArray, List.set_cons_zero, List.set_cons_succ]
      refine wpAnyH_take (i := 4) (v := .pointer (some ⟨g, o + i, none⟩)) rfl (by kernel_rfl) (by kernel_rfl) (by kernel_rfl) (fun _ _ _ h => h) (Or.inl ⟨by rfl, ?_⟩) (by assumption) ?_
      · intro wz hSw
        obtain ⟨hs0, hs1, hs2⟩ := hSw
        go_simp
      try simp only [Act.put, List.setIfInBounds_toArray, List.set_cons_zero, List.set_cons_succ]
      refine wpAnyH_take (i := 5) (v := .int .i64 (a : Int)) rfl (by kernel_rfl) (by kernel_rfl) (by kernel_rfl) (fun _ _ _ h => h) (Or.inl ⟨by rfl, ?_⟩) (by assumption) ?_
      · intro wz hSw
        obtain ⟨hs0, hs1, hs2⟩ := hSw
        go_simp
      try simp only [Act.put, List.setIfInBounds_toArray, List.set_cons_zero, List.set_cons_succ]
      refine wpAnyH_take (i := 6) (v := .slice (some ⟨g, o, none⟩) len c) rfl (by kernel_rfl) (by kernel_rfl) (by kernel_rfl) (fun _ _ _ h => h) (Or.inl ⟨by rfl, ?_⟩) (by assumption) ?_
      · intro wz hSw
        obtain ⟨hs0, hs1, hs2⟩ := hSw
        go_simp
      try simp only [Act.put, List.setIfInBounds_toArray, List.set_cons_zero, List.set_cons_succ]
      refine wpAnyH_take (i := 7) (v := .int .i64 (i : Int)) rfl (by kernel_rfl) (by kernel_rfl) (by kernel_rfl) (fun _ _ _ h => h) (Or.inl ⟨by rfl, ?_⟩) (by assumption) ?_
      · intro wz hSw
        obtain ⟨hs0, hs1, hs2⟩ := hSw
        go_simp
      try simp only [Act.put, List.setIfInBounds_toArray, List.set_cons_zero, List.set_cons_succ]
      refine wpAnyH_take (i := 8) (v := .int .i64 (j : Int)) rfl (by kernel_rfl) (by kernel_rfl) (by kernel_rfl) (fun _ _ _ h => h) (Or.inl ⟨by rfl, ?_⟩) (by assumption) ?_
      · intro wz hSw
        obtain ⟨hs0, hs1, hs2⟩ := hSw
        go_simp
      try simp only [Act.put, List.setIfInBounds_toArray, List.set_cons_zero, List.set_cons_succ]
      refine wpAnyH_take (i := 9) (v := .pointer (some ⟨g, o + j, none⟩)) rfl (by kernel_rfl) (by kernel_rfl) (by kernel_rfl) (fun _ _ _ h => h) (Or.inl ⟨by rfl, ?_⟩) (by assumption) ?_
      · intro wz hSw
        obtain ⟨hs0, hs1, hs2⟩ := hSw
        go_simp
      try simp only [Act.put, List.setIfInBounds_toArray, List.set_cons_zero, List.set_cons_succ]
      refine wpAnyH_take (i := 10) (v := .int .i64 (b : Int)) rfl (by kernel_rfl) (by kernel_rfl) (by kernel_rfl) (fun _ _ _ h => h) (Or.inl ⟨by rfl, ?_⟩) (by assumption) ?_
      · intro wz hSw
        obtain ⟨hs0, hs1, hs2⟩ := hSw
        go_simp
      try simp only [Act.put, List.setIfInBounds_toArray, List.set_cons_zero, List.set_cons_succ]
      refine wpAnyH_take (i := 11) (v := .agg #[.int .i64 (a : Int), .int .i64 (b : Int)]) rfl (by kernel_rfl) (by kernel_rfl) (by kernel_rfl) (fun _ _ _ h => h) (Or.inl ⟨by rfl, ?_⟩) (by assumption) ?_
      · intro wz hSw
        obtain ⟨hs0, hs1, hs2⟩ := hSw
        go_simp
      try simp only [Act.put, List.setIfInBounds_toArray, List.set_cons_zero, List.set_cons_succ]
      have hHeld3 : (wr.alloc (.cells #[.int .i64 (a : Int), .int .i64 (b : Int)] 57)).drew.cell? ⟨g, o + i, none⟩ = some (.int .i64 (a : Int)) ∧ (wr.alloc (.cells #[.int .i64 (a : Int), .int .i64 (b : Int)] 57)).drew.cell? ⟨g, o + j, none⟩ = some (.int .i64 (b : Int)) ∧ (wr.alloc (.cells #[.int .i64 (a : Int), .int .i64 (b : Int)] 57)).drew.frozen? ⟨w.heap.size + 1, 1, none⟩ = false :=
        ⟨(World.cell?_alloc_lt _ _ _ lg).trans ca, (World.cell?_alloc_lt _ _ _ lg).trans cb, (World.frozen?_alloc_past _ _ _ l1).trans f1⟩
      refine wpAnyH_ready (rs := [1, 12]) (by kernel_rfl) (by simp) ?_
      refine AllReadyH.cons rfl (fun K hK => ?_) (AllReadyH.cons rfl (fun K hK => ?_) AllReadyH.nil)
      · have c1d : wr.drew.cell? ⟨w.heap.size + 1, 1, none⟩ = some (.slice pa k pc) := c1
        go_simp
        refine hK.out _ _ hHeld (fun hHeld2 => ?_)
        clear hK K
        try simp only [Act.put, List.setIfInBounds_toArray, List.set_cons_zero, List.set_cons_succ]
        refine wpAnyH_ready (rs := [12]) (by kernel_rfl) (by simp) ?_
        refine AllReadyH.cons rfl (fun K hK => ?_) AllReadyH.nil
        go_simp
        refine hK.out _ _ hHeld3 (fun hHeld2 => ?_)
        clear hK K c1d
        try simp only [Act.put, List.setIfInBounds_toArray, List.set_cons_zero, List.set_cons_succ]
        refine wpAnyH_ready (rs := [13]) (by kernel_rfl) (by simp) ?_
        refine AllReadyH.cons rfl (fun K hK => ?_) AllReadyH.nil
        refine step_append_lies _ (by rfl) _ _ _ (by rfl) w.heap.size 57 i0 _ 2 16 Try.underlying22 hi0 hz0 hz1 hz2 rfl (by omega) (.slice pa k pc) k (prC (prsN ns k)) (by rfl) hown2 ⟨wr.heap.size, 0, none⟩ 1 1 [.int .i64 (a : Int), .int .i64 (b : Int)] (by rfl) (by rfl) (World.news_of_block (cs := #[.int .i64 (a : Int), .int .i64 (b : Int)]) (t := 57) (fr := (0, 0)) (heap_alloc_new wr _)) (by simp [Value.oneCell']) (by omega) (by unfold maxLen; omega) (by omega) (by simp; omega) (wr.heap.size + 1) (by simp) ?_
        intro gg cap2 w1 hown1 hgrow hat hlt
        have e0 := hgrow.cell_far ⟨g, o + i, none⟩ (by simp; omega) (Ne.symm ng)
        have e1 := hgrow.cell_far ⟨g, o + j, none⟩ (by simp; omega) (Ne.symm ng)
        have e2 := hgrow.frozen_far ⟨w.heap.size + 1, 1, none⟩ (by simp; omega) (Ne.symm ng1)
        have hkg := (show Blk (wr.alloc (.cells #[.int .i64 (a : Int), .int .i64 (b : Int)] 57)).drew (w.heap.size + 1) 24 #[.int .i64 (n : Int), .slice pa k pc] from (hblk.alloc _).drew).grown hgrow (Ne.symm ng1)
        have hcg := hkg.cell' (i := 1) rfl
        have hlg := hkg.lt
        refine hK.out _ _ ⟨e0.trans hHeld3.1, e1.trans hHeld3.2.1, e2.trans hHeld3.2.2⟩ (fun hHeld4 => ?_)
        have hfg := hHeld4.2.2
        clear hK K e0 e1 e2
        try simp only [Act.put, List.setIfInBounds_toArray, List.set_cons_zero, List.set_cons_succ]
        refine wpAnyH_take (i := 14) (v := .pointer (some ⟨w.heap.size + 1, 1, none⟩)) rfl (by kernel_rfl) (by kernel_rfl) (by kernel_rfl) (fun _ _ _ h => h) (Or.inl ⟨by rfl, ?_⟩) (by assumption) ?_
        · intro wz hSw
          obtain ⟨hs0, hs1, hs2⟩ := hSw
          go_simp
        try simp only [Act.put, List.setIfInBounds_toArray, List.set_cons_zero, List.set_cons_succ]
        refine wpAnyH_ready (rs := [15]) (by kernel_rfl) (by simp) ?_
        refine AllReadyH.cons rfl (fun K hK => ?_) AllReadyH.nil
        go_simp
        refine hK.out _ _ ⟨?_, ?_, ?_⟩ (fun _ => ?_)
        · rw [World.cell?_setCell_other _ _ _ _ (fun e => n1 (Addr.mk.inj e).1.symm)]; exact hHeld4.1
        · rw [World.cell?_setCell_other _ _ _ _ (fun e => n1 (Addr.mk.inj e).1.symm)]; exact hHeld4.2.1
        · rw [World.frozen?_setCell]; exact hHeld4.2.2
        clear hK K
        refine wpAnyH_done (by kernel_rfl) ?_ _
        have hbelX := gr_set ((gr_drew (gr_alloc F.out.1 (.cells #[.int .i64 (a : Int), .int .i64 (b : Int)] 57))).grown hgrow (by have := F.out.1.size; simp; omega) (fun q hq => (hown2.lt q hq).1)) (p := ⟨w.heap.size + 1, 1, none⟩) (Nat.le_succ _) (.slice (some ⟨gg, 0, none⟩) (k + 1) cap2)
        have hownX := own_setCell (g := w.heap.size + 1) (i := 1) hown1 hkg (by decide) (.slice (some ⟨gg, 0, none⟩) (k + 1) cap2)
        have hkX := hkg.set_ 1 (.slice (some ⟨gg, 0, none⟩) (k + 1) cap2)
        have hzX := (((HI.out.2.2.alloc (.cells #[.int .i64 (a : Int), .int .i64 (b : Int)] 57)).drew).grown hgrow (Ne.symm ngz)).far (p := ⟨w.heap.size + 1, 1, none⟩) (by show w.heap.size ≠ w.heap.size + 1; omega) (.slice (some ⟨gg, 0, none⟩) (k + 1) cap2)
        have L := Lib.hid (And.intro hbelX (And.intro hownX (And.intro hkX hzX)))
        clear hbelX hownX hkX hzX hown1 hgrow hat hlt hkg hcg hlg hfg hown2 hblk hHeld hHeld3 hHeld4 hHeld2
        go_wp2_with (fail)
        go_roundg (len - 2 * (k + 1))
        case measure => have := F.out.2.2.1; have := HI.out.1; have := HI.out.2.1; omega
        case rel =>
          refine ⟨k + 1, .slice (some ⟨gg, 0, none⟩) (k + 1) cap2, rfl, by have := HI.out.1; have := HI.out.2.1; omega, rfl, L.out.1, L.out.2.2.1, ?_, L.out.2.2.2⟩
          have h9 := L.out.2.1
          unfold OwnE
          rw [prsN_succ, prC_snoc, List.length_append, prsN_len, ← F.out.2.2.2.1, ← F.out.2.2.2.2]
          exact h9
      · have c1d : (wr.alloc (.cells #[.int .i64 (a : Int), .int .i64 (b : Int)] 57)).drew.cell? ⟨w.heap.size + 1, 1, none⟩ = some (.slice pa k pc) := (World.cell?_alloc_lt _ _ _ l1).trans c1
        go_simp
        refine hK.out _ _ hHeld3 (fun hHeld2 => ?_)
        clear hK K
        try simp only [Act.put, List.setIfInBounds_toArray, List.set_cons_zero, List.set_cons_succ]
        refine wpAnyH_ready (rs := [1]) (by kernel_rfl) (by simp) ?_
        refine AllReadyH.cons rfl (fun K hK => ?_) AllReadyH.nil
        go_simp
        refine hK.out _ _ hHeld3 (fun hHeld2 => ?_)
        clear hK K c1d
        try simp only [Act.put, List.setIfInBounds_toArray, List.set_cons_zero, List.set_cons_succ]
        refine wpAnyH_ready (rs := [13]) (by kernel_rfl) (by simp) ?_
        refine AllReadyH.cons rfl (fun K hK => ?_) AllReadyH.nil
        refine step_append_lies _ (by rfl) _ _ _ (by rfl) w.heap.size 57 i0 _ 2 16 Try.underlying22 hi0 hz0 hz1 hz2 rfl (by omega) (.slice pa k pc) k (prC (prsN ns k)) (by rfl) hown2 ⟨wr.heap.size, 0, none⟩ 1 1 [.int .i64 (a : Int), .int .i64 (b : Int)] (by rfl) (by rfl) (World.news_of_block (cs := #[.int .i64 (a : Int), .int .i64 (b : Int)]) (t := 57) (fr := (0, 0)) (heap_alloc_new wr _)) (by simp [Value.oneCell']) (by omega) (by unfold maxLen; omega) (by omega) (by simp; omega) (wr.heap.size + 1) (by simp) ?_
        intro gg cap2 w1 hown1 hgrow hat hlt
        have e0 := hgrow.cell_far ⟨g, o + i, none⟩ (by simp; omega) (Ne.symm ng)
        have e1 := hgrow.cell_far ⟨g, o + j, none⟩ (by simp; omega) (Ne.symm ng)
        have e2 := hgrow.frozen_far ⟨w.heap.size + 1, 1, none⟩ (by simp; omega) (Ne.symm ng1)
        have hkg := (show Blk (wr.alloc (.cells #[.int .i64 (a : Int), .int .i64 (b : Int)] 57)).drew (w.heap.size + 1) 24 #[.int .i64 (n : Int), .slice pa k pc] from (hblk.alloc _).drew).grown hgrow (Ne.symm ng1)
        have hcg := hkg.cell' (i := 1) rfl
        have hlg := hkg.lt
        refine hK.out _ _ ⟨e0.trans hHeld3.1, e1.trans hHeld3.2.1, e2.trans hHeld3.2.2⟩ (fun hHeld4 => ?_)
        have hfg := hHeld4.2.2
        clear hK K e0 e1 e2
        try simp only [Act.put, List.setIfInBounds_toArray, List.set_cons_zero, List.set_cons_succ]
        refine wpAnyH_take (i := 14) (v := .pointer (some ⟨w.heap.size + 1, 1, none⟩)) rfl (by kernel_rfl) (by kernel_rfl) (by kernel_rfl) (fun _ _ _ h => h) (Or.inl ⟨by rfl, ?_⟩) (by assumption) ?_
        · intro wz hSw
          obtain ⟨hs0, hs1, hs2⟩ := hSw
          go_simp
        try simp only [Act.put, List.setIfInBounds_toArray, List.set_cons_zero, List.set_cons_succ]
        refine wpAnyH_ready (rs := [15]) (by kernel_rfl) (by simp) ?_
        refine AllReadyH.cons rfl (fun K hK => ?_) AllReadyH.nil
        go_simp
        refine hK.out _ _ ⟨?_, ?_, ?_⟩ (fun _ => ?_)
        · rw [World.cell?_setCell_other _ _ _ _ (fun e => n1 (Addr.mk.inj e).1.symm)]; exact hHeld4.1
        · rw [World.cell?_setCell_other _ _ _ _ (fun e => n1 (Addr.mk.inj e).1.symm)]; exact hHeld4.2.1
        · rw [World.frozen?_setCell]; exact hHeld4.2.2
        clear hK K
        refine wpAnyH_done (by kernel_rfl) ?_ _
        have hbelX := gr_set ((gr_drew (gr_alloc F.out.1 (.cells #[.int .i64 (a : Int), .int .i64 (b : Int)] 57))).grown hgrow (by have := F.out.1.size; simp; omega) (fun q hq => (hown2.lt q hq).1)) (p := ⟨w.heap.size + 1, 1, none⟩) (Nat.le_succ _) (.slice (some ⟨gg, 0, none⟩) (k + 1) cap2)
        have hownX := own_setCell (g := w.heap.size + 1) (i := 1) hown1 hkg (by decide) (.slice (some ⟨gg, 0, none⟩) (k + 1) cap2)
        have hkX := hkg.set_ 1 (.slice (some ⟨gg, 0, none⟩) (k + 1) cap2)
        have hzX := (((HI.out.2.2.alloc (.cells #[.int .i64 (a : Int), .int .i64 (b : Int)] 57)).drew).grown hgrow (Ne.symm ngz)).far (p := ⟨w.heap.size + 1, 1, none⟩) (by show w.heap.size ≠ w.heap.size + 1; omega) (.slice (some ⟨gg, 0, none⟩) (k + 1) cap2)
        have L := Lib.hid (And.intro hbelX (And.intro hownX (And.intro hkX hzX)))
        clear hbelX hownX hkX hzX hown1 hgrow hat hlt hkg hcg hlg hfg hown2 hblk hHeld hHeld3 hHeld4 hHeld2
        go_wp2_with (fail)
        go_roundg (len - 2 * (k + 1))
        case measure => have := F.out.2.2.1; have := HI.out.1; have := HI.out.2.1; omega
        case rel =>
          refine ⟨k + 1, .slice (some ⟨gg, 0, none⟩) (k + 1) cap2, rfl, by have := HI.out.1; have := HI.out.2.1; omega, rfl, L.out.1, L.out.2.2.1, ?_, L.out.2.2.2⟩
          have h9 := L.out.2.1
          unfold OwnE
          rw [prsN_succ, prC_snoc, List.length_append, prsN_len, ← F.out.2.2.2.1, ← F.out.2.2.2.2]
          exact h9
    · have hkI : ¬ (j : Int) < (len : Int) := by omega
      have he : len / 2 = k := by omega
      have c0 := hblk.cell' (i := 0) rfl
      have c1 := hblk.cell' (i := 1) rfl
      have l1 := hblk.lt
      have z0 := hz.cell' (i := 0) rfl
      have z1 := hz.cell' (i := 1) rfl
      have f0 := hz.frozen 0
      have f1 := hz.frozen 1
      have lz := hz.lt
      obtain ⟨pa, pc, hve⟩ := own_slice hown
      rw [prsN_len] at hve
      subst hve
      have hkz := (hz.set_ 0 (.int .i64 (n : Int))).set_ 1 (.slice pa k pc)
      have e0 := hkz.cell' (i := 0) rfl
      have e1 := hkz.cell' (i := 1) rfl
      have le := hkz.lt
      have hownz := own_setCell (own_setCell hown hz (by decide) (.int .i64 (n : Int)) (i := 0)) (hz.set_ 0 (.int .i64 (n : Int))) (by decide) (.slice pa k pc) (i := 1)
      have hbz := gr_set (gr_set hbel (p := ⟨w.heap.size, 0, none⟩) (Nat.le_refl _) (.int .i64 (n : Int))) (p := ⟨w.heap.size, 1, none⟩) (Nat.le_refl _) (.slice pa k pc)
      have F := Lib.hid (And.intro hownz (And.intro hbz (And.intro he H.out.2.2.2.2)))
      clear hownz hbz hkz hown hz hbel hblk hq hi hj he hk hkl w2
      go_wp2_with (fail)
      refine bodyPost_ret (v := .agg #[.int .i64 (n : Int), .slice pa k pc]) (by simp [results, Try.results36, go_sem, e0, e1, le]) rfl ⟨_, rfl, ?_, F.out.2.1⟩
      rw [F.out.2.2.1]
      exact F.out.1
/-- The graph of the law's awake. -/
def shL : List Nat := [0, 1, 1, 2, 2, 1, 2, 3, 4, 4]
def shG : List Edg := (prsN shL 5).map conE
set_option maxRecDepth 100000 in
set_option maxHeartbeats 4000000 in
theorem shown_law (w : World) :
    Calls Try.prog 35 #[] w fun e w' => ∃ u, e = .returned (.agg #[.int .i64 5, u]) ∧ EdgsAt w' u shG ∧ Below w.heap.size w w' := by
  have b0 := gr_alloc (gr_alloc (Below.refl w.heap.size w) (.cells #[.int .i64 0, .slice none 0 0] 24)) (.cells #[.int .i64 0, .int .i64 1, .int .i64 1, .int .i64 2, .int .i64 2, .int .i64 1, .int .i64 2, .int .i64 3, .int .i64 4, .int .i64 4] 3)
  have kz : Blk ((w.alloc (.cells #[.int .i64 0, .slice none 0 0] 24)).alloc (.cells #[.int .i64 0, .int .i64 1, .int .i64 1, .int .i64 2, .int .i64 2, .int .i64 1, .int .i64 2, .int .i64 3, .int .i64 4, .int .i64 4] 3)) w.heap.size 24 #[.int .i64 0, .slice none 0 0] := (Blk.new w _ _).alloc _
  have kl : Blk ((w.alloc (.cells #[.int .i64 0, .slice none 0 0] 24)).alloc (.cells #[.int .i64 0, .int .i64 1, .int .i64 1, .int .i64 2, .int .i64 2, .int .i64 1, .int .i64 2, .int .i64 3, .int .i64 4, .int .i64 4] 3)) (w.heap.size + 1) 3 #[.int .i64 0, .int .i64 1, .int .i64 1, .int .i64 2, .int .i64 2, .int .i64 1, .int .i64 2, .int .i64 3, .int .i64 4, .int .i64 4] := blk_at (by simp)
  have hn : NatsAt ((w.alloc (.cells #[.int .i64 0, .slice none 0 0] 24)).alloc (.cells #[.int .i64 0, .int .i64 1, .int .i64 1, .int .i64 2, .int .i64 2, .int .i64 1, .int .i64 2, .int .i64 3, .int .i64 4, .int .i64 4] 3)) (.slice (some ⟨w.heap.size + 1, 0, none⟩) 10 10) shL := by
    refine ⟨some ⟨w.heap.size + 1, 0, none⟩, 10, rfl, fun _ => ⟨w.heap.size + 1, 0, rfl, kl.lt, fun j x hj => ?_⟩⟩
    rw [Nat.zero_add]
    have hj10 : j < 10 := (List.getElem?_eq_some_iff.1 hj).1
    refine kl.cell' ?_
    match j, hj10, hj with
    | 0, _, hj => cases hj; rfl
    | 1, _, hj => cases hj; rfl
    | 2, _, hj => cases hj; rfl
    | 3, _, hj => cases hj; rfl
    | 4, _, hj => cases hj; rfl
    | 5, _, hj => cases hj; rfl
    | 6, _, hj => cases hj; rfl
    | 7, _, hj => cases hj; rfl
    | 8, _, hj => cases hj; rfl
    | 9, _, hj => cases hj; rfl
  have hgl := graph_law 5 shL (by decide) _ _ hn
  have H := Lib.hid (And.intro b0 (And.intro kz hgl))
  clear b0 kz hgl hn kl
  go_enter Try.func35, Try.ntmps35
  go_wp2_with (fail)
  refine H.out.2.2.mono ?_
  rintro e W1 ⟨u, rfl, hu, h1⟩
  have hz := H.out.2.1.call h1
  have z0 := hz.cell' (i := 0) rfl
  have z1 := hz.cell' (i := 1) rfl
  have f0 := hz.frozen 0
  have f1 := hz.frozen 1
  have lz := hz.lt
  obtain ⟨A, c, hve⟩ := own_slice hu
  have hve : u = .slice A 5 c := hve
  subst hve
  have hkz := (hz.set_ 0 (.int .i64 5)).set_ 1 (.slice A 5 c)
  have e0 := hkz.cell' (i := 0) rfl
  have e1 := hkz.cell' (i := 1) rfl
  have le := hkz.lt
  have hbz := gr_set (gr_set (gr_call H.out.1 h1) (p := ⟨w.heap.size, 0, none⟩) (Nat.le_refl _) (.int .i64 5)) (p := ⟨w.heap.size, 1, none⟩) (Nat.le_refl _) (.slice A 5 c)
  have hownz := OwnE.at_ (own_setCell (own_setCell hu hz (by decide) (.int .i64 5) (i := 0)) (hz.set_ 0 (.int .i64 5)) (by decide) (.slice A 5 c) (i := 1))
  have F := Lib.hid (And.intro hbz hownz)
  clear hbz hownz hu hkz hz h1
  go_wp2_with (fail)
  refine bodyPost_ret (v := .agg #[.int .i64 5, .slice A 5 c]) (by simp [results, Try.results35, go_sem, e0, e1, le]) rfl ⟨_, rfl, F.out.2, F.out.1⟩
end Go.Proofs.Ytjgkiiohbceocaa
namespace Go.Proofs.Ytjgkiiohbceocaa
open Go.RowKit
set_option linter.unusedVariables false
set_option linter.unusedSimpArgs false

theorem nats_lit {W : World} {g : Nat} {cs : Array Value} {l : List Nat} {n : Nat} (h : Blk W g 3 cs) (hc : cs.toList = natC l) (hn : n = l.length) : NatsAt W (.slice (some ⟨g, 0, none⟩) n n) l := by
  subst hn
  refine ⟨some ⟨g, 0, none⟩, l.length, rfl, fun _ => ⟨g, 0, rfl, h.lt, fun j x hj => ?_⟩⟩
  rw [Nat.zero_add]
  refine h.cell' ?_
  rw [← Array.getElem?_toList, hc]
  unfold natC
  rw [List.getElem?_map, hj]; rfl
theorem ll_lit {W : World} {g : Nat} {cs : Array Value} {ls : List (List Nat)} {n : Nat} (h : Blk W g 25 cs) (hn : n = ls.length) (hc : ∀ (j : Nat) (l : List Nat), ls[j]? = some l → ∃ u, cs[j]? = some u ∧ NatsAt W u l) : LLAt W (.slice (some ⟨g, 0, none⟩) n n) ls := by
  subst hn
  refine ⟨some ⟨g, 0, none⟩, ls.length, rfl, fun _ => ⟨g, rfl, h.lt, fun j l hj => ?_⟩⟩
  obtain ⟨u, h1, h2⟩ := hc j l hj
  exact ⟨u, h.cell' h1, h2⟩
theorem ints_lit {W : World} {g : Nat} {cs : Array Value} {l : List Int} {n : Nat} (h : Blk W g 3 cs) (hc : cs.toList = intL l) (hn : n = l.length) : CellsAt W (.slice (some ⟨g, 0, none⟩) n n) (intL l) := by
  subst hn
  refine ⟨some ⟨g, 0, none⟩, l.length, by rw [intL_len], fun _ => ⟨g, 0, rfl, h.lt, fun j x hj => ?_⟩⟩
  rw [Nat.zero_add]
  refine h.cell' ?_
  rw [← Array.getElem?_toList, hc, hj]
theorem sh_len : shG.length = 5 := rfl
theorem sh_parts : vParts 5 shG = [[0], [1, 2], [3], [4]] := by decide +kernel
theorem sh_chk : (chkG 5 shG).1 = 0 := by decide +kernel
theorem sh_ePath : ePath 5 shG 0 3 = 0 := by decide +kernel
theorem sh_path : vPath 5 shG 0 3 = [0, 1, 2, 3] := by decide +kernel
theorem sh_eHv : eHv 5 shG [1, 1, 5, 1, 3] = 0 := by decide +kernel
theorem sh_hv : vHv 5 shG [1, 1, 5, 1, 3] = (7, [0, 1, 2]) := by decide +kernel

set_option maxRecDepth 100000 in
set_option maxHeartbeats 4000000 in
theorem awake_law (w : World) :
    Calls Try.prog 10 #[] w fun e w' => e = .returned (.bool true) ∧ Below w.heap.size w w' := by
  go_enter Try.func10, Try.ntmps10
  go_wp2_with (fail)
  refine (shown_law _).mono ?_
  rintro e W1 ⟨u1, rfl, ⟨A1, c1, rfl, k1⟩, h1⟩
  have hp := parts_code 5 shG (by rw [sh_len]; decide) A1 c1 W1 k1
  rw [sh_parts, sh_chk] at hp
  clear k1
  go_wp2_with (fail)
  refine hp.mono ?_
  rintro e W2 ⟨v1, rfl, l1, h2⟩
  have B2 := Lib.hid (And.intro (gr_call h1 h2) l1)
  clear h1 h2 l1 hp
  go_wp2_with (fail)
  refine (shown_law _).mono ?_
  rintro e W3 ⟨u2, rfl, ⟨A2, c2, rfl, k2⟩, h3⟩
  have hp := path_code 5 shG 0 3 (by rw [sh_len]; decide) A2 c2 W3 k2
  rw [sh_ePath, sh_path] at hp
  clear k2
  go_wp2_with (fail)
  refine hp.mono ?_
  rintro e W4 ⟨v2, rfl, l2, h4⟩
  have h24 := gr_call h3 h4
  have B4 := Lib.hid (And.intro (gr_call B2.out.1 h24) (And.intro (B2.out.2.below h24) l2))
  clear h3 h4 h24 l2 hp B2
  go_wp2_with (fail)
  refine (shown_law _).mono ?_
  rintro e W5 ⟨u3, rfl, ⟨A3, c3, rfl, k3⟩, h5⟩
  have ha := gr_alloc (Below.refl W5.heap.size W5) (.cells #[.int .i64 1, .int .i64 1, .int .i64 5, .int .i64 1, .int .i64 3] 3)
  have hp := heavy_code 5 shG [1, 1, 5, 1, 3] (by rw [sh_len]; decide) (by decide) A3 c3 (.slice (some ⟨W5.heap.size, 0, none⟩) 5 5) (W5.alloc (.cells #[.int .i64 1, .int .i64 1, .int .i64 5, .int .i64 1, .int .i64 3] 3)) (k3.below ha) (ints_lit (Blk.new _ _ _) rfl rfl)
  rw [sh_eHv, sh_hv] at hp
  clear k3
  go_wp2_with (fail)
  refine hp.mono ?_
  rintro e W6 ⟨v3, rfl, l3, h6⟩
  have h46 := gr_call h5 (gr_call ha h6)
  have B6 := Lib.hid (And.intro (gr_call B4.out.1 h46) (And.intro (B4.out.2.1.below h46) (And.intro (B4.out.2.2.below h46) l3)))
  clear h5 ha h6 h46 l3 hp B4
  go_wp2_with (fail)
  refine (shown_law _).mono ?_
  rintro e W7 ⟨u4, rfl, ⟨A4, c4, rfl, k4⟩, h7⟩
  have hp := check_code 5 shG (by rw [sh_len]; decide) A4 c4 W7 k4
  rw [sh_chk] at hp
  clear k4
  go_wp2_with (fail)
  refine hp.mono ?_
  rintro e W8 ⟨rfl, h8⟩
  have h68 := gr_call h7 h8
  have B8 := Lib.hid (And.intro (gr_call B6.out.1 h68) (And.intro (B6.out.2.1.below h68) (And.intro (B6.out.2.2.1.below h68) (B6.out.2.2.2.below h68))))
  clear h7 h8 h68 hp B6
  go_wp2_with (fail)
  have hz := (gr_alloc (gr_alloc (gr_alloc (gr_alloc (gr_alloc (Below.refl W8.heap.size W8) (.cells #[.int .i64 0] 3)) (.cells #[.int .i64 1, .int .i64 2] 3)) (.cells #[.int .i64 3] 3)) (.cells #[.int .i64 4] 3)) (.cells #[.slice (some ⟨W8.heap.size, 0, none⟩) 1 1, .slice (some ⟨W8.heap.size + 1, 0, none⟩) 2 2, .slice (some ⟨W8.heap.size + 1 + 1, 0, none⟩) 1 1, .slice (some ⟨W8.heap.size + 1 + 1 + 1, 0, none⟩) 1 1] 25))
  have b0 : Blk (((((W8.alloc (.cells #[.int .i64 0] 3)).alloc (.cells #[.int .i64 1, .int .i64 2] 3)).alloc (.cells #[.int .i64 3] 3)).alloc (.cells #[.int .i64 4] 3)).alloc (.cells #[.slice (some ⟨W8.heap.size, 0, none⟩) 1 1, .slice (some ⟨W8.heap.size + 1, 0, none⟩) 2 2, .slice (some ⟨W8.heap.size + 1 + 1, 0, none⟩) 1 1, .slice (some ⟨W8.heap.size + 1 + 1 + 1, 0, none⟩) 1 1] 25)) W8.heap.size 3 #[.int .i64 0] := ((((Blk.new W8 _ _).alloc _).alloc _).alloc _).alloc _
  have b1 : Blk (((((W8.alloc (.cells #[.int .i64 0] 3)).alloc (.cells #[.int .i64 1, .int .i64 2] 3)).alloc (.cells #[.int .i64 3] 3)).alloc (.cells #[.int .i64 4] 3)).alloc (.cells #[.slice (some ⟨W8.heap.size, 0, none⟩) 1 1, .slice (some ⟨W8.heap.size + 1, 0, none⟩) 2 2, .slice (some ⟨W8.heap.size + 1 + 1, 0, none⟩) 1 1, .slice (some ⟨W8.heap.size + 1 + 1 + 1, 0, none⟩) 1 1] 25)) (W8.heap.size + 1) 3 #[.int .i64 1, .int .i64 2] := (((blk_at (by simp)).alloc _).alloc _).alloc _
  have b2 : Blk (((((W8.alloc (.cells #[.int .i64 0] 3)).alloc (.cells #[.int .i64 1, .int .i64 2] 3)).alloc (.cells #[.int .i64 3] 3)).alloc (.cells #[.int .i64 4] 3)).alloc (.cells #[.slice (some ⟨W8.heap.size, 0, none⟩) 1 1, .slice (some ⟨W8.heap.size + 1, 0, none⟩) 2 2, .slice (some ⟨W8.heap.size + 1 + 1, 0, none⟩) 1 1, .slice (some ⟨W8.heap.size + 1 + 1 + 1, 0, none⟩) 1 1] 25)) (W8.heap.size + 1 + 1) 3 #[.int .i64 3] := ((blk_at (by simp)).alloc _).alloc _
  have b3 : Blk (((((W8.alloc (.cells #[.int .i64 0] 3)).alloc (.cells #[.int .i64 1, .int .i64 2] 3)).alloc (.cells #[.int .i64 3] 3)).alloc (.cells #[.int .i64 4] 3)).alloc (.cells #[.slice (some ⟨W8.heap.size, 0, none⟩) 1 1, .slice (some ⟨W8.heap.size + 1, 0, none⟩) 2 2, .slice (some ⟨W8.heap.size + 1 + 1, 0, none⟩) 1 1, .slice (some ⟨W8.heap.size + 1 + 1 + 1, 0, none⟩) 1 1] 25)) (W8.heap.size + 1 + 1 + 1) 3 #[.int .i64 4] := (blk_at (by simp)).alloc _
  have b4 : Blk (((((W8.alloc (.cells #[.int .i64 0] 3)).alloc (.cells #[.int .i64 1, .int .i64 2] 3)).alloc (.cells #[.int .i64 3] 3)).alloc (.cells #[.int .i64 4] 3)).alloc (.cells #[.slice (some ⟨W8.heap.size, 0, none⟩) 1 1, .slice (some ⟨W8.heap.size + 1, 0, none⟩) 2 2, .slice (some ⟨W8.heap.size + 1 + 1, 0, none⟩) 1 1, .slice (some ⟨W8.heap.size + 1 + 1 + 1, 0, none⟩) 1 1] 25)) (W8.heap.size + 1 + 1 + 1 + 1) 25 #[.slice (some ⟨W8.heap.size, 0, none⟩) 1 1, .slice (some ⟨W8.heap.size + 1, 0, none⟩) 2 2, .slice (some ⟨W8.heap.size + 1 + 1, 0, none⟩) 1 1, .slice (some ⟨W8.heap.size + 1 + 1 + 1, 0, none⟩) 1 1] := blk_at (by simp)
  have hll : LLAt (((((W8.alloc (.cells #[.int .i64 0] 3)).alloc (.cells #[.int .i64 1, .int .i64 2] 3)).alloc (.cells #[.int .i64 3] 3)).alloc (.cells #[.int .i64 4] 3)).alloc (.cells #[.slice (some ⟨W8.heap.size, 0, none⟩) 1 1, .slice (some ⟨W8.heap.size + 1, 0, none⟩) 2 2, .slice (some ⟨W8.heap.size + 1 + 1, 0, none⟩) 1 1, .slice (some ⟨W8.heap.size + 1 + 1 + 1, 0, none⟩) 1 1] 25)) (.slice (some ⟨W8.heap.size + 1 + 1 + 1 + 1, 0, none⟩) 4 4) [[0], [1, 2], [3], [4]] := by
    refine ll_lit b4 rfl (fun j l hj => ?_)
    have hj4 : j < 4 := (List.getElem?_eq_some_iff.1 hj).1
    match j, hj4, hj with
    | 0, _, hj => cases hj; exact ⟨_, rfl, nats_lit b0 rfl rfl⟩
    | 1, _, hj => cases hj; exact ⟨_, rfl, nats_lit b1 rfl rfl⟩
    | 2, _, hj => cases hj; exact ⟨_, rfl, nats_lit b2 rfl rfl⟩
    | 3, _, hj => cases hj; exact ⟨_, rfl, nats_lit b3 rfl rfl⟩
  have hc := lists_law [[0], [1, 2], [3], [4]] [[0], [1, 2], [3], [4]] v1 _ (by decide) (by decide) (by decide) (by decide) _ (B8.out.2.1.below hz) hll
  rw [decide_eq_true rfl] at hc
  refine hc.mono ?_
  rintro e X1 ⟨rfl, h9⟩
  have h89 := gr_call hz h9
  have C1 := Lib.hid (And.intro (gr_call B8.out.1 h89) (And.intro (B8.out.2.2.1.below h89) (B8.out.2.2.2.below h89)))
  clear hz b0 b1 b2 b3 b4 hll hc h9 h89
  go_wp2_with (fail)
  have ha := gr_alloc (Below.refl X1.heap.size X1) (.cells #[.int .i64 0, .int .i64 1, .int .i64 2, .int .i64 3] 3)
  have hc := same_nats [0, 1, 2, 3] [0, 1, 2, 3] v2 (.slice (some ⟨X1.heap.size, 0, none⟩) 4 4) (X1.alloc (.cells #[.int .i64 0, .int .i64 1, .int .i64 2, .int .i64 3] 3)) (C1.out.2.1.below ha) (nats_lit (Blk.new _ _ _) rfl rfl) (by decide) (by decide)
  rw [decide_eq_true rfl] at hc
  refine hc.mono ?_
  rintro e X2 ⟨rfl, h9⟩
  have h89 := gr_call ha h9
  have C2 := Lib.hid (And.intro (gr_call C1.out.1 h89) (C1.out.2.2.below h89))
  clear ha hc h9 h89
  go_wp2_with (fail)
  have ha := gr_alloc (Below.refl X2.heap.size X2) (.cells #[.int .i64 0, .int .i64 1, .int .i64 2] 3)
  have hc := same_nats [0, 1, 2] [0, 1, 2] v3 (.slice (some ⟨X2.heap.size, 0, none⟩) 3 3) (X2.alloc (.cells #[.int .i64 0, .int .i64 1, .int .i64 2] 3)) (C2.out.2.below ha) (nats_lit (Blk.new _ _ _) rfl rfl) (by decide) (by decide)
  rw [decide_eq_true rfl] at hc
  refine hc.mono ?_
  rintro e X3 ⟨rfl, h9⟩
  have C3 := Lib.hid (gr_call C2.out.1 (gr_call ha h9))
  clear ha hc h9
  go_wp2_with (fail)
  go_ret
  exact ⟨rfl, C3.out⟩
end Go.Proofs.Ytjgkiiohbceocaa
