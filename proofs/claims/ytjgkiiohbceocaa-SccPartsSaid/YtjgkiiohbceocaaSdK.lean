/-
  The law's graph and shown, walked; no condition but the size.
-/
import Derived.Test.YtjgkiiohbceocaaSdJ
namespace Go.Proofs.Ytjgkiiohbceocaa
open Go.RowKit
set_option linter.unusedVariables false
set_option linter.unusedSimpArgs false

/-- The pairs of a list. -/
def prsN (ns : List Nat) (k : Nat) : List (Nat × Nat) := (List.range k).map fun j => ((ns[2 * j]?).getD 0, (ns[2 * j + 1]?).getD 0)
theorem prsN_succ (ns : List Nat) (k : Nat) : prsN ns (k + 1) = prsN ns k ++ [((ns[2 * k]?).getD 0, (ns[2 * k + 1]?).getD 0)] := by
  unfold prsN; rw [List.range_succ, List.map_append]; rfl
theorem prsN_len (ns : List Nat) (k : Nat) : (prsN ns k).length = k := by simp [prsN]

set_option maxRecDepth 100000 in
set_option maxHeartbeats 4000000 in
theorem graph_law (n : Nat) (ns : List Nat) (hl : ns.length ≤ 1000) (v : Value) (w : World) (hv : NatsAt w v ns) :
    Calls Try.prog 36 #[.int .i64 (n : Int), v] w fun e w' => ∃ u, e = .returned (.agg #[.int .i64 (n : Int), u]) ∧ OwnE w' w.heap.size u (prsN ns (ns.length / 2)) ∧ Below w.heap.size w w' := by
  obtain ⟨A, c, rfl, hA⟩ := hv.ex
  obtain ⟨i0, hi0, hz0, hz1, hz2⟩ := info_parts infoEdge
  obtain ⟨len, hlen⟩ : ∃ x, x = ns.length := ⟨_, rfl⟩
  have k0 : Blk ((w.alloc (.cells #[.int .i64 0, .slice none 0 0] 24)).alloc (.cells #[.int .i64 (n : Int), .slice none 0 0] 24)) w.heap.size 24 #[.int .i64 0, .slice none 0 0] := (Blk.new w _ _).alloc _
  have k1 : Blk ((w.alloc (.cells #[.int .i64 0, .slice none 0 0] 24)).alloc (.cells #[.int .i64 (n : Int), .slice none 0 0] 24)) (w.heap.size + 1) 24 #[.int .i64 (n : Int), .slice none 0 0] := blk_at (by simp)
  have b0 := gr_alloc (gr_alloc (Below.refl w.heap.size w) (.cells #[.int .i64 0, .slice none 0 0] 24)) (.cells #[.int .i64 (n : Int), .slice none 0 0] 24)
  have H := Lib.hid (And.intro k0 (And.intro k1 (And.intro b0 (And.intro hA hlen))))
  rw [← hlen] at hl ⊢
  clear k0 k1 b0 hA hv hlen
  go_enter Try.func36, Try.ntmps36
  go_wp2_with (fail)
  go_loopg [6] len (fun q iv wr => ∃ k vE, q = len - 2 * k ∧ 2 * k ≤ len ∧ iv = .int .i64 ((2 * k : Nat) : Int) ∧ Below w.heap.size w wr ∧ Blk wr (w.heap.size + 1) 24 #[.int .i64 (n : Int), vE] ∧ OwnE wr w.heap.size vE (prsN ns k) ∧ Blk wr w.heap.size 24 #[.int .i64 0, .slice none 0 0])
  case atStart => exact ⟨0, .slice none 0 0, rfl, Nat.zero_le _, rfl, H.out.2.2.1, H.out.2.1, ownE_nil _ _, H.out.1⟩
  case round =>
    obtain ⟨k, vE, hq, hk, rfl, hbel, hblk, hown, hz⟩ := hrel
    obtain ⟨i, hi⟩ : ∃ i, i = 2 * k := ⟨_, rfl⟩
    rw [← hi] at hq hk ⊢
    obtain ⟨j, hj⟩ : ∃ j, j = i + 1 := ⟨_, rfl⟩
    have w1 : IntKind.i64.wrap ((i : Int) + 1) = (j : Int) := (IntWalk.i64_in _ (by omega)).trans (by omega)
    have w2 : IntKind.i64.wrap ((i : Int) + 2) = ((2 * (k + 1) : Nat) : Int) := (IntWalk.i64_in _ (by omega)).trans (by omega)
    by_cases hkl : j < len
    · have hkI : (j : Int) < (len : Int) := by omega
      have hil : (i : Int) < (len : Int) := by omega
      obtain ⟨a, ha⟩ : ∃ a, ns[i]? = some a := ⟨_, List.getElem?_eq_getElem (by rw [← H.out.2.2.2.2]; omega)⟩
      obtain ⟨b, hb⟩ : ∃ b, ns[j]? = some b := ⟨_, List.getElem?_eq_getElem (by rw [← H.out.2.2.2.2]; omega)⟩
      obtain ⟨g, o, rfl, hg, hc⟩ := H.out.2.2.2.1 (fun e => by rw [e] at ha; simp at ha)
      have ca := (hbel.cell (p := ⟨g, o + i, none⟩) hg).trans (hc _ _ ha)
      have cb := (hbel.cell (p := ⟨g, o + j, none⟩) hg).trans (hc _ _ hb)
      have lg := Nat.lt_of_lt_of_le hg hbel.size
      have c1 := hblk.cell' (i := 1) rfl
      have f1 := hblk.frozen 1
      have l1 := hblk.lt
      have bz := hbel.size
      obtain ⟨pa, pc, hve⟩ := own_slice hown
      rw [prsN_len] at hve
      subst hve
      have hown0 : wr.ownsRow w.heap.size 57 2 (.slice pa k pc) k (prC (prsN ns k)) := by
        have h := hown
        unfold OwnE at h
        rw [prsN_len] at h
        exact h
      have ng1 : Value.ownBlock (.slice pa k pc) ≠ some (w.heap.size + 1) := fun e => own_blk_ne hown0 hblk (by decide) e.symm
      have ng : Value.ownBlock (.slice pa k pc) ≠ some g := fun e => by have := (hown0.lt g e).1; omega
      have n1 : g ≠ w.heap.size + 1 := by omega
      have hown2 := (hown0.alloc (.cells #[.int .i64 (a : Int), .int .i64 (b : Int)] 57)).drew
      have F := Lib.hid (And.intro hbel (And.intro hown0 (And.intro hq (And.intro (show a = (ns[2 * k]?).getD 0 by rw [← hi, ha]; rfl) (show b = (ns[2 * k + 1]?).getD 0 by rw [← hi, ← hj, hb]; rfl)))))
      have HI := Lib.hid (And.intro hi (And.intro hj hz))
      have ngz : Value.ownBlock (.slice pa k pc) ≠ some w.heap.size := fun e => own_blk_ne hown0 hz (by decide) e.symm
      clear hz
      have hk1000 : k ≤ 1000 := by omega
      clear hbel hown hown0 hq ha hb hc hi hj
      go_wp2_with (fail)
      refine wp_region_held_drew (S := (fun w' => w'.cell? ⟨g, o + i, none⟩ = some (.int .i64 (a : Int)) ∧ w'.cell? ⟨g, o + j, none⟩ = some (.int .i64 (b : Int)) ∧ w'.frozen? ⟨w.heap.size + 1, 1, none⟩ = false)) (by kernel_rfl) ⟨by simpa using ca, by simpa using cb, by simpa using f1⟩ (fun hHeld => ?_)
      refine wpAnyH_take (i := 0) (v := .pointer (some ⟨w.heap.size + 1, 1, none⟩)) rfl (by kernel_rfl) (by kernel_rfl) (by kernel_rfl) (fun _ _ _ h => h) (Or.inl ⟨by rfl, ?_⟩) (by assumption) ?_
      · intro wz hSw
        obtain ⟨hs0, hs1, hs2⟩ := hSw
        go_simp
      try simp only [Act.put, List.setIfInBounds_toArray, List.set_cons_zero, List.set_cons_succ]
      refine wpAnyH_take (i := 2) (v := .slice (some ⟨g, o, none⟩) len c) rfl (by kernel_rfl) (by kernel_rfl) (by kernel_rfl) (fun _ _ _ h => h) (Or.inl ⟨by rfl, ?_⟩) (by assumption) ?_
      · intro wz hSw
        obtain ⟨hs0, hs1, hs2⟩ := hSw
        go_simp
      try simp only [Act.put, List.setIfInBounds_toArray, List.set_cons_zero, List.set_cons_succ]
      refine wpAnyH_take (i := 3) (v := .int .i64 (i : Int)) rfl (by kernel_rfl) (by kernel_rfl) (by kernel_rfl) (fun _ _ _ h => h) (Or.inl ⟨by rfl, ?_⟩) (by assumption) ?_
      · intro wz hSw
        obtain ⟨hs0, hs1, hs2⟩ := hSw
        go_simp
      try simp only [Act.put, List.setIfInBounds_toArray, List.set_cons_zero, List.set_cons_succ]
      refine wpAnyH_take (i := 4) (v := .pointer (some ⟨g, o + i, none⟩)) rfl (by kernel_rfl) (by kernel_rfl) (by kernel_rfl) (fun _ _ _ h => h) (Or.inl ⟨by rfl, ?_⟩) (by assumption) ?_
      · intro wz hSw
        obtain ⟨hs0, hs1, hs2⟩ := hSw
        go_simp
      try simp only [Act.put, List.setIfInBounds_toArray, List.set_cons_zero, List.set_cons_succ]
      refine wpAnyH_take (i := 5) (v := .int .i64 (a : Int)) rfl (by kernel_rfl) (by kernel_rfl) (by kernel_rfl) (fun _ _ _ h => h) (Or.inl ⟨by rfl, ?_⟩) (by assumption) ?_
      · intro wz hSw
        obtain ⟨hs0, hs1, hs2⟩ := hSw
        go_simp
      try simp only [Act.put, List.setIfInBounds_toArray, List.set_cons_zero, List.set_cons_succ]
      refine wpAnyH_take (i := 6) (v := .slice (some ⟨g, o, none⟩) len c) rfl (by kernel_rfl) (by kernel_rfl) (by kernel_rfl) (fun _ _ _ h => h) (Or.inl ⟨by rfl, ?_⟩) (by assumption) ?_
      · intro wz hSw
        obtain ⟨hs0, hs1, hs2⟩ := hSw
        go_simp
      try simp only [Act.put, List.setIfInBounds_toArray, List.set_cons_zero, List.set_cons_succ]
      refine wpAnyH_take (i := 7) (v := .int .i64 (i : Int)) rfl (by kernel_rfl) (by kernel_rfl) (by kernel_rfl) (fun _ _ _ h => h) (Or.inl ⟨by rfl, ?_⟩) (by assumption) ?_
      · intro wz hSw
        obtain ⟨hs0, hs1, hs2⟩ := hSw
        go_simp
      try simp only [Act.put, List.setIfInBounds_toArray, List.set_cons_zero, List.set_cons_succ]
      refine wpAnyH_take (i := 8) (v := .int .i64 (j : Int)) rfl (by kernel_rfl) (by kernel_rfl) (by kernel_rfl) (fun _ _ _ h => h) (Or.inl ⟨by rfl, ?_⟩) (by assumption) ?_
      · intro wz hSw
        obtain ⟨hs0, hs1, hs2⟩ := hSw
        go_simp
      try simp only [Act.put, List.setIfInBounds_toArray, List.set_cons_zero, List.set_cons_succ]
      refine wpAnyH_take (i := 9) (v := .pointer (some ⟨g, o + j, none⟩)) rfl (by kernel_rfl) (by kernel_rfl) (by kernel_rfl) (fun _ _ _ h => h) (Or.inl ⟨by rfl, ?_⟩) (by assumption) ?_
      · intro wz hSw
        obtain ⟨hs0, hs1, hs2⟩ := hSw
        go_simp
      try simp only [Act.put, List.setIfInBounds_toArray, List.set_cons_zero, List.set_cons_succ]
      refine wpAnyH_take (i := 10) (v := .int .i64 (b : Int)) rfl (by kernel_rfl) (by kernel_rfl) (by kernel_rfl) (fun _ _ _ h => h) (Or.inl ⟨by rfl, ?_⟩) (by assumption) ?_
      · intro wz hSw
        obtain ⟨hs0, hs1, hs2⟩ := hSw
        go_simp
      try simp only [Act.put, List.setIfInBounds_toArray, List.set_cons_zero, List.set_cons_succ]
      refine wpAnyH_take (i := 11) (v := .agg #[.int .i64 (a : Int), .int .i64 (b : Int)]) rfl (by kernel_rfl) (by kernel_rfl) (by kernel_rfl) (fun _ _ _ h => h) (Or.inl ⟨by rfl, ?_⟩) (by assumption) ?_
      · intro wz hSw
        obtain ⟨hs0, hs1, hs2⟩ := hSw
        go_simp
      try simp only [Act.put, List.setIfInBounds_toArray, List.set_cons_zero, List.set_cons_succ]
      have hHeld3 : (wr.alloc (.cells #[.int .i64 (a : Int), .int .i64 (b : Int)] 57)).drew.cell? ⟨g, o + i, none⟩ = some (.int .i64 (a : Int)) ∧ (wr.alloc (.cells #[.int .i64 (a : Int), .int .i64 (b : Int)] 57)).drew.cell? ⟨g, o + j, none⟩ = some (.int .i64 (b : Int)) ∧ (wr.alloc (.cells #[.int .i64 (a : Int), .int .i64 (b : Int)] 57)).drew.frozen? ⟨w.heap.size + 1, 1, none⟩ = false :=
        ⟨(World.cell?_alloc_lt _ _ _ lg).trans ca, (World.cell?_alloc_lt _ _ _ lg).trans cb, (World.frozen?_alloc_past _ _ _ l1).trans f1⟩
      refine wpAnyH_ready (rs := [1, 12]) (by kernel_rfl) (by simp) ?_
      refine AllReadyH.cons rfl (fun K hK => ?_) (AllReadyH.cons rfl (fun K hK => ?_) AllReadyH.nil)
      · have c1d : wr.drew.cell? ⟨w.heap.size + 1, 1, none⟩ = some (.slice pa k pc) := c1
        go_simp
        refine hK.out _ _ hHeld (fun hHeld2 => ?_)
        clear hK K
        try simp only [Act.put, List.setIfInBounds_toArray, List.set_cons_zero, List.set_cons_succ]
        refine wpAnyH_ready (rs := [12]) (by kernel_rfl) (by simp) ?_
        refine AllReadyH.cons rfl (fun K hK => ?_) AllReadyH.nil
        go_simp
        refine hK.out _ _ hHeld3 (fun hHeld2 => ?_)
        clear hK K c1d
        try simp only [Act.put, List.setIfInBounds_toArray, List.set_cons_zero, List.set_cons_succ]
        refine wpAnyH_ready (rs := [13]) (by kernel_rfl) (by simp) ?_
        refine AllReadyH.cons rfl (fun K hK => ?_) AllReadyH.nil
        refine step_append_lies _ (by rfl) _ _ _ (by rfl) w.heap.size 57 i0 _ 2 16 Try.underlying22 hi0 hz0 hz1 hz2 rfl (by omega) (.slice pa k pc) k (prC (prsN ns k)) (by rfl) hown2 ⟨wr.heap.size, 0, none⟩ 1 1 [.int .i64 (a : Int), .int .i64 (b : Int)] (by rfl) (by rfl) (World.news_of_block (cs := #[.int .i64 (a : Int), .int .i64 (b : Int)]) (t := 57) (fr := (0, 0)) (heap_alloc_new wr _)) (by simp [Value.oneCell']) (by omega) (by unfold maxLen; omega) (by omega) (by simp; omega) (wr.heap.size + 1) (by simp) ?_
        intro gg cap2 w1 hown1 hgrow hat hlt
        have e0 := hgrow.cell_far ⟨g, o + i, none⟩ (by simp; omega) (Ne.symm ng)
        have e1 := hgrow.cell_far ⟨g, o + j, none⟩ (by simp; omega) (Ne.symm ng)
        have e2 := hgrow.frozen_far ⟨w.heap.size + 1, 1, none⟩ (by simp; omega) (Ne.symm ng1)
        have hkg := (show Blk (wr.alloc (.cells #[.int .i64 (a : Int), .int .i64 (b : Int)] 57)).drew (w.heap.size + 1) 24 #[.int .i64 (n : Int), .slice pa k pc] from (hblk.alloc _).drew).grown hgrow (Ne.symm ng1)
        have hcg := hkg.cell' (i := 1) rfl
        have hlg := hkg.lt
        refine hK.out _ _ ⟨e0.trans hHeld3.1, e1.trans hHeld3.2.1, e2.trans hHeld3.2.2⟩ (fun hHeld4 => ?_)
        have hfg := hHeld4.2.2
        clear hK K e0 e1 e2
        try simp only [Act.put, List.setIfInBounds_toArray, List.set_cons_zero, List.set_cons_succ]
        refine wpAnyH_take (i := 14) (v := .pointer (some ⟨w.heap.size + 1, 1, none⟩)) rfl (by kernel_rfl) (by kernel_rfl) (by kernel_rfl) (fun _ _ _ h => h) (Or.inl ⟨by rfl, ?_⟩) (by assumption) ?_
        · intro wz hSw
          obtain ⟨hs0, hs1, hs2⟩ := hSw
          go_simp
        try simp only [Act.put, List.setIfInBounds_toArray, List.set_cons_zero, List.set_cons_succ]
        refine wpAnyH_ready (rs := [15]) (by kernel_rfl) (by simp) ?_
        refine AllReadyH.cons rfl (fun K hK => ?_) AllReadyH.nil
        go_simp
        refine hK.out _ _ ⟨?_, ?_, ?_⟩ (fun _ => ?_)
        · rw [World.cell?_setCell_other _ _ _ _ (fun e => n1 (Addr.mk.inj e).1.symm)]; exact hHeld4.1
        · rw [World.cell?_setCell_other _ _ _ _ (fun e => n1 (Addr.mk.inj e).1.symm)]; exact hHeld4.2.1
        · rw [World.frozen?_setCell]; exact hHeld4.2.2
        clear hK K
        refine wpAnyH_done (by kernel_rfl) ?_ _
        have hbelX := gr_set ((gr_drew (gr_alloc F.out.1 (.cells #[.int .i64 (a : Int), .int .i64 (b : Int)] 57))).grown hgrow (by have := F.out.1.size; simp; omega) (fun q hq => (hown2.lt q hq).1)) (p := ⟨w.heap.size + 1, 1, none⟩) (Nat.le_succ _) (.slice (some ⟨gg, 0, none⟩) (k + 1) cap2)
        have hownX := own_setCell (g := w.heap.size + 1) (i := 1) hown1 hkg (by decide) (.slice (some ⟨gg, 0, none⟩) (k + 1) cap2)
        have hkX := hkg.set_ 1 (.slice (some ⟨gg, 0, none⟩) (k + 1) cap2)
        have hzX := (((HI.out.2.2.alloc (.cells #[.int .i64 (a : Int), .int .i64 (b : Int)] 57)).drew).grown hgrow (Ne.symm ngz)).far (p := ⟨w.heap.size + 1, 1, none⟩) (by show w.heap.size ≠ w.heap.size + 1; omega) (.slice (some ⟨gg, 0, none⟩) (k + 1) cap2)
        have L := Lib.hid (And.intro hbelX (And.intro hownX (And.intro hkX hzX)))
        clear hbelX hownX hkX hzX hown1 hgrow hat hlt hkg hcg hlg hfg hown2 hblk hHeld hHeld3 hHeld4 hHeld2
        go_wp2_with (fail)
        go_roundg (len - 2 * (k + 1))
        case measure => have := F.out.2.2.1; have := HI.out.1; have := HI.out.2.1; omega
        case rel =>
          refine ⟨k + 1, .slice (some ⟨gg, 0, none⟩) (k + 1) cap2, rfl, by have := HI.out.1; have := HI.out.2.1; omega, rfl, L.out.1, L.out.2.2.1, ?_, L.out.2.2.2⟩
          have h9 := L.out.2.1
          unfold OwnE
          rw [prsN_succ, prC_snoc, List.length_append, prsN_len, ← F.out.2.2.2.1, ← F.out.2.2.2.2]
          exact h9
      · have c1d : (wr.alloc (.cells #[.int .i64 (a : Int), .int .i64 (b : Int)] 57)).drew.cell? ⟨w.heap.size + 1, 1, none⟩ = some (.slice pa k pc) := (World.cell?_alloc_lt _ _ _ l1).trans c1
        go_simp
        refine hK.out _ _ hHeld3 (fun hHeld2 => ?_)
        clear hK K
        try simp only [Act.put, List.setIfInBounds_toArray, List.set_cons_zero, List.set_cons_succ]
        refine wpAnyH_ready (rs := [1]) (by kernel_rfl) (by simp) ?_
        refine AllReadyH.cons rfl (fun K hK => ?_) AllReadyH.nil
        go_simp
        refine hK.out _ _ hHeld3 (fun hHeld2 => ?_)
        clear hK K c1d
        try simp only [Act.put, List.setIfInBounds_toArray, List.set_cons_zero, List.set_cons_succ]
        refine wpAnyH_ready (rs := [13]) (by kernel_rfl) (by simp) ?_
        refine AllReadyH.cons rfl (fun K hK => ?_) AllReadyH.nil
        refine step_append_lies _ (by rfl) _ _ _ (by rfl) w.heap.size 57 i0 _ 2 16 Try.underlying22 hi0 hz0 hz1 hz2 rfl (by omega) (.slice pa k pc) k (prC (prsN ns k)) (by rfl) hown2 ⟨wr.heap.size, 0, none⟩ 1 1 [.int .i64 (a : Int), .int .i64 (b : Int)] (by rfl) (by rfl) (World.news_of_block (cs := #[.int .i64 (a : Int), .int .i64 (b : Int)]) (t := 57) (fr := (0, 0)) (heap_alloc_new wr _)) (by simp [Value.oneCell']) (by omega) (by unfold maxLen; omega) (by omega) (by simp; omega) (wr.heap.size + 1) (by simp) ?_
        intro gg cap2 w1 hown1 hgrow hat hlt
        have e0 := hgrow.cell_far ⟨g, o + i, none⟩ (by simp; omega) (Ne.symm ng)
        have e1 := hgrow.cell_far ⟨g, o + j, none⟩ (by simp; omega) (Ne.symm ng)
        have e2 := hgrow.frozen_far ⟨w.heap.size + 1, 1, none⟩ (by simp; omega) (Ne.symm ng1)
        have hkg := (show Blk (wr.alloc (.cells #[.int .i64 (a : Int), .int .i64 (b : Int)] 57)).drew (w.heap.size + 1) 24 #[.int .i64 (n : Int), .slice pa k pc] from (hblk.alloc _).drew).grown hgrow (Ne.symm ng1)
        have hcg := hkg.cell' (i := 1) rfl
        have hlg := hkg.lt
        refine hK.out _ _ ⟨e0.trans hHeld3.1, e1.trans hHeld3.2.1, e2.trans hHeld3.2.2⟩ (fun hHeld4 => ?_)
        have hfg := hHeld4.2.2
        clear hK K e0 e1 e2
        try simp only [Act.put, List.setIfInBounds_toArray, List.set_cons_zero, List.set_cons_succ]
        refine wpAnyH_take (i := 14) (v := .pointer (some ⟨w.heap.size + 1, 1, none⟩)) rfl (by kernel_rfl) (by kernel_rfl) (by kernel_rfl) (fun _ _ _ h => h) (Or.inl ⟨by rfl, ?_⟩) (by assumption) ?_
        · intro wz hSw
          obtain ⟨hs0, hs1, hs2⟩ := hSw
          go_simp
        try simp only [Act.put, List.setIfInBounds_toArray, List.set_cons_zero, List.set_cons_succ]
        refine wpAnyH_ready (rs := [15]) (by kernel_rfl) (by simp) ?_
        refine AllReadyH.cons rfl (fun K hK => ?_) AllReadyH.nil
        go_simp
        refine hK.out _ _ ⟨?_, ?_, ?_⟩ (fun _ => ?_)
        · rw [World.cell?_setCell_other _ _ _ _ (fun e => n1 (Addr.mk.inj e).1.symm)]; exact hHeld4.1
        · rw [World.cell?_setCell_other _ _ _ _ (fun e => n1 (Addr.mk.inj e).1.symm)]; exact hHeld4.2.1
        · rw [World.frozen?_setCell]; exact hHeld4.2.2
        clear hK K
        refine wpAnyH_done (by kernel_rfl) ?_ _
        have hbelX := gr_set ((gr_drew (gr_alloc F.out.1 (.cells #[.int .i64 (a : Int), .int .i64 (b : Int)] 57))).grown hgrow (by have := F.out.1.size; simp; omega) (fun q hq => (hown2.lt q hq).1)) (p := ⟨w.heap.size + 1, 1, none⟩) (Nat.le_succ _) (.slice (some ⟨gg, 0, none⟩) (k + 1) cap2)
        have hownX := own_setCell (g := w.heap.size + 1) (i := 1) hown1 hkg (by decide) (.slice (some ⟨gg, 0, none⟩) (k + 1) cap2)
        have hkX := hkg.set_ 1 (.slice (some ⟨gg, 0, none⟩) (k + 1) cap2)
        have hzX := (((HI.out.2.2.alloc (.cells #[.int .i64 (a : Int), .int .i64 (b : Int)] 57)).drew).grown hgrow (Ne.symm ngz)).far (p := ⟨w.heap.size + 1, 1, none⟩) (by show w.heap.size ≠ w.heap.size + 1; omega) (.slice (some ⟨gg, 0, none⟩) (k + 1) cap2)
        have L := Lib.hid (And.intro hbelX (And.intro hownX (And.intro hkX hzX)))
        clear hbelX hownX hkX hzX hown1 hgrow hat hlt hkg hcg hlg hfg hown2 hblk hHeld hHeld3 hHeld4 hHeld2
        go_wp2_with (fail)
        go_roundg (len - 2 * (k + 1))
        case measure => have := F.out.2.2.1; have := HI.out.1; have := HI.out.2.1; omega
        case rel =>
          refine ⟨k + 1, .slice (some ⟨gg, 0, none⟩) (k + 1) cap2, rfl, by have := HI.out.1; have := HI.out.2.1; omega, rfl, L.out.1, L.out.2.2.1, ?_, L.out.2.2.2⟩
          have h9 := L.out.2.1
          unfold OwnE
          rw [prsN_succ, prC_snoc, List.length_append, prsN_len, ← F.out.2.2.2.1, ← F.out.2.2.2.2]
          exact h9
    · have hkI : ¬ (j : Int) < (len : Int) := by omega
      have he : len / 2 = k := by omega
      have c0 := hblk.cell' (i := 0) rfl
      have c1 := hblk.cell' (i := 1) rfl
      have l1 := hblk.lt
      have z0 := hz.cell' (i := 0) rfl
      have z1 := hz.cell' (i := 1) rfl
      have f0 := hz.frozen 0
      have f1 := hz.frozen 1
      have lz := hz.lt
      obtain ⟨pa, pc, hve⟩ := own_slice hown
      rw [prsN_len] at hve
      subst hve
      have hkz := (hz.set_ 0 (.int .i64 (n : Int))).set_ 1 (.slice pa k pc)
      have e0 := hkz.cell' (i := 0) rfl
      have e1 := hkz.cell' (i := 1) rfl
      have le := hkz.lt
      have hownz := own_setCell (own_setCell hown hz (by decide) (.int .i64 (n : Int)) (i := 0)) (hz.set_ 0 (.int .i64 (n : Int))) (by decide) (.slice pa k pc) (i := 1)
      have hbz := gr_set (gr_set hbel (p := ⟨w.heap.size, 0, none⟩) (Nat.le_refl _) (.int .i64 (n : Int))) (p := ⟨w.heap.size, 1, none⟩) (Nat.le_refl _) (.slice pa k pc)
      have F := Lib.hid (And.intro hownz (And.intro hbz (And.intro he H.out.2.2.2.2)))
      clear hownz hbz hkz hown hz hbel hblk hq hi hj he hk hkl w2
      go_wp2_with (fail)
      refine bodyPost_ret (v := .agg #[.int .i64 (n : Int), .slice pa k pc]) (by simp [results, Try.results36, go_sem, e0, e1, le]) rfl ⟨_, rfl, ?_, F.out.2.1⟩
      rw [F.out.2.2.1]
      exact F.out.1
/-- The graph of the law's awake. -/
def shL : List Nat := [0, 1, 1, 2, 2, 1, 2, 3, 4, 4]
def shG : List Edg := (prsN shL 5).map conE
set_option maxRecDepth 100000 in
set_option maxHeartbeats 4000000 in
theorem shown_law (w : World) :
    Calls Try.prog 35 #[] w fun e w' => ∃ u, e = .returned (.agg #[.int .i64 5, u]) ∧ EdgsAt w' u shG ∧ Below w.heap.size w w' := by
  have b0 := gr_alloc (gr_alloc (Below.refl w.heap.size w) (.cells #[.int .i64 0, .slice none 0 0] 24)) (.cells #[.int .i64 0, .int .i64 1, .int .i64 1, .int .i64 2, .int .i64 2, .int .i64 1, .int .i64 2, .int .i64 3, .int .i64 4, .int .i64 4] 3)
  have kz : Blk ((w.alloc (.cells #[.int .i64 0, .slice none 0 0] 24)).alloc (.cells #[.int .i64 0, .int .i64 1, .int .i64 1, .int .i64 2, .int .i64 2, .int .i64 1, .int .i64 2, .int .i64 3, .int .i64 4, .int .i64 4] 3)) w.heap.size 24 #[.int .i64 0, .slice none 0 0] := (Blk.new w _ _).alloc _
  have kl : Blk ((w.alloc (.cells #[.int .i64 0, .slice none 0 0] 24)).alloc (.cells #[.int .i64 0, .int .i64 1, .int .i64 1, .int .i64 2, .int .i64 2, .int .i64 1, .int .i64 2, .int .i64 3, .int .i64 4, .int .i64 4] 3)) (w.heap.size + 1) 3 #[.int .i64 0, .int .i64 1, .int .i64 1, .int .i64 2, .int .i64 2, .int .i64 1, .int .i64 2, .int .i64 3, .int .i64 4, .int .i64 4] := blk_at (by simp)
  have hn : NatsAt ((w.alloc (.cells #[.int .i64 0, .slice none 0 0] 24)).alloc (.cells #[.int .i64 0, .int .i64 1, .int .i64 1, .int .i64 2, .int .i64 2, .int .i64 1, .int .i64 2, .int .i64 3, .int .i64 4, .int .i64 4] 3)) (.slice (some ⟨w.heap.size + 1, 0, none⟩) 10 10) shL := by
    refine ⟨some ⟨w.heap.size + 1, 0, none⟩, 10, rfl, fun _ => ⟨w.heap.size + 1, 0, rfl, kl.lt, fun j x hj => ?_⟩⟩
    rw [Nat.zero_add]
    have hj10 : j < 10 := (List.getElem?_eq_some_iff.1 hj).1
    refine kl.cell' ?_
    match j, hj10, hj with
    | 0, _, hj => cases hj; rfl
    | 1, _, hj => cases hj; rfl
    | 2, _, hj => cases hj; rfl
    | 3, _, hj => cases hj; rfl
    | 4, _, hj => cases hj; rfl
    | 5, _, hj => cases hj; rfl
    | 6, _, hj => cases hj; rfl
    | 7, _, hj => cases hj; rfl
    | 8, _, hj => cases hj; rfl
    | 9, _, hj => cases hj; rfl
  have hgl := graph_law 5 shL (by decide) _ _ hn
  have H := Lib.hid (And.intro b0 (And.intro kz hgl))
  clear b0 kz hgl hn kl
  go_enter Try.func35, Try.ntmps35
  go_wp2_with (fail)
  refine H.out.2.2.mono ?_
  rintro e W1 ⟨u, rfl, hu, h1⟩
  have hz := H.out.2.1.call h1
  have z0 := hz.cell' (i := 0) rfl
  have z1 := hz.cell' (i := 1) rfl
  have f0 := hz.frozen 0
  have f1 := hz.frozen 1
  have lz := hz.lt
  obtain ⟨A, c, hve⟩ := own_slice hu
  have hve : u = .slice A 5 c := hve
  subst hve
  have hkz := (hz.set_ 0 (.int .i64 5)).set_ 1 (.slice A 5 c)
  have e0 := hkz.cell' (i := 0) rfl
  have e1 := hkz.cell' (i := 1) rfl
  have le := hkz.lt
  have hbz := gr_set (gr_set (gr_call H.out.1 h1) (p := ⟨w.heap.size, 0, none⟩) (Nat.le_refl _) (.int .i64 5)) (p := ⟨w.heap.size, 1, none⟩) (Nat.le_refl _) (.slice A 5 c)
  have hownz := OwnE.at_ (own_setCell (own_setCell hu hz (by decide) (.int .i64 5) (i := 0)) (hz.set_ 0 (.int .i64 5)) (by decide) (.slice A 5 c) (i := 1))
  have F := Lib.hid (And.intro hbz hownz)
  clear hbz hownz hu hkz hz h1
  go_wp2_with (fail)
  refine bodyPost_ret (v := .agg #[.int .i64 5, .slice A 5 c]) (by simp [results, Try.results35, go_sem, e0, e1, le]) rfl ⟨_, rfl, F.out.2, F.out.1⟩
end Go.Proofs.Ytjgkiiohbceocaa
