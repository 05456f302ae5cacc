/-
  slices.Delete at rules, walked: in place, on a list of the call's own; conditions: sizes.
-/
import Derived.Deep.DeepAppendRoom
import Derived.Test.YthpcbaamkeiffaaGreatDoorMCgD
namespace Go.Proofs.YthpcbaamkeiffaaGreatDoor
open Go.RowKit Go.Shelf
set_option linter.unusedVariables false
set_option linter.unusedSimpArgs false

/-! Lists of cells. -/
section
variable {α : Type} {m : Nat} {cell : α → Value → List Value}
theorem allL_app : ∀ (xs : List α) (us : List Value) (ys : List α) (vs : List Value), us.length = xs.length → allL cell (xs ++ ys) (us ++ vs) = allL cell xs us ++ allL cell ys vs
  | [], [], ys, vs, _ => rfl
  | x :: xs, [], ys, vs, h => by simp at h
  | [], v :: us, ys, vs, h => by simp at h
  | x :: xs, u :: us, ys, vs, h => by
    show cell x u ++ allL cell (xs ++ ys) (us ++ vs) = (cell x u ++ allL cell xs us) ++ allL cell ys vs
    rw [allL_app xs us ys vs (by simpa using h), List.append_assoc]
theorem allL_cut (hm : ∀ x u, (cell x u).length = m) (xs : List α) (us : List Value) (h : us.length = xs.length) (k : Nat) (hk : k ≤ xs.length) : (allL cell xs us).take (k * m) = allL cell (xs.take k) (us.take k) ∧ (allL cell xs us).drop (k * m) = allL cell (xs.drop k) (us.drop k) := by
  have h1 := allL_app (cell := cell) (xs.take k) (us.take k) (xs.drop k) (us.drop k) (by simp; omega)
  rw [List.take_append_drop, List.take_append_drop] at h1
  have hl := allL_len hm (xs.take k) (us.take k) (by simp; omega)
  rw [List.length_take, Nat.min_eq_left hk] at hl
  rw [h1]
  exact ⟨List.take_left' hl, List.drop_left' hl⟩
theorem allL_one : ∀ (xs : List α) (us : List Value), Each (fun x u => ∀ q ∈ cell x u, q.oneCell' = true) xs us → ∀ q ∈ allL cell xs us, q.oneCell' = true
  | [], us, _, q, hq => by cases us <;> cases hq
  | x :: xs, [], _, q, hq => by cases hq
  | x :: xs, u :: us, h, q, hq => by
    rcases List.mem_append.1 (show q ∈ cell x u ++ allL cell xs us from hq) with hq | hq
    · exact h 0 x u rfl rfl q hq
    · exact allL_one xs us (fun i y v hy hv => h (i + 1) y v hy hv) q hq
end
theorem own_take {W : World} {B m gr n cap : Nat} {T : TypeId} {xs : List Value} (h : W.ownsRow B T m (.slice (some ⟨gr, 0, none⟩) n cap) n xs) {k : Nat} (hk : k ≤ n) : W.ownsRow B T m (.slice (some ⟨gr, 0, none⟩) k cap) k (xs.take (k * m)) := by
  have hkm : k * m ≤ n * m := Nat.mul_le_mul_right _ hk
  refine ⟨by rw [List.length_take, h.1, Nat.min_eq_left hkm], ?_⟩
  rcases h.2 with ⟨e, _⟩ | ⟨g, c, cur, e, h1, h2, h3, h4, h5, h6⟩
  · cases e
  · cases e
    refine .inr ⟨gr, cap, cur, rfl, h1, h2, by omega, h4, h5, ?_⟩
    rw [← h6, List.take_take, Nat.min_eq_left hkm]
theorem blk_setCells {T : TypeId} {b : Nat} : ∀ (vs : List Value) (o : Nat) (W : World) (cs : Array Value), Blk W b T cs → ∃ cs', Blk (W.setCells b o vs) b T cs' ∧ cs'.size = cs.size ∧ (∀ k, k < o → cs'[k]? = cs[k]?) ∧ W.grownBy (W.setCells b o vs) (some b)
  | [], o, W, cs, h => ⟨cs, h, rfl, fun _ _ => rfl, only_refl _ _⟩
  | v :: vs, o, W, cs, h => by
    obtain ⟨cs', h1, h2, h3, h4⟩ := blk_setCells vs (o + 1) (W.setCell ⟨b, o, none⟩ v) _ (h.set_ o v)
    refine ⟨cs', h1, by rw [h2, Array.size_setIfInBounds], fun k hk => ?_, only_trans (only_setCell (only_refl _ _) (p := ⟨b, o, none⟩) (Or.inl rfl) v) h4⟩
    rw [h3 k (by omega), Array.getElem?_setIfInBounds_ne (by omega)]
theorem run_clear_many {P : Program} (w : World) (t e ty : TypeId) (z : Value) (ht : P.underlying t = some (.slice e)) (hv : ∀ w, (zeroValue e).run P w = .ok z w) (b o n c : Nat) (hn : 0 < n) (h1 : ∀ q ∈ (Builtin.zeroCells z.cells n).toList, q.oneCell' = true)
    (hc : ∀ j, j < (Builtin.zeroCells z.cells n).toList.length → (w.cell? ⟨b, o + j, none⟩).isSome = true) (hf : ∀ j, j < (Builtin.zeroCells z.cells n).toList.length → w.frozen? ⟨b, o + j, none⟩ = false) :
    (Builtin.clear_ #[t] ty #[.slice (some ⟨b, o, none⟩) n c]).run P w = .ok (.tuple #[]) (w.setCells b o (Builtin.zeroCells z.cells n).toList) := by
  have hst := run_storeCells_cells (P := P) b o (Builtin.zeroCells z.cells n).toList 0 w (by simpa using hc) (by simpa using hf) h1
  simp only [Nat.add_zero] at hst
  obtain ⟨m, rfl⟩ : ∃ m, n = m + 1 := ⟨n - 1, by omega⟩
  simp [Builtin.clear_, run_underlying ht, hv, hst]
def zRu : Value := .agg #[.string ⟨#[]⟩, .bool false, .slice none 0 0, .string ⟨#[]⟩, .bool false, .bool false, .bool false, .bool false, .bool false, .bool false, .bool false, .bool false, .int .i64 0, .int .i64 0]
theorem zero_ru (w : World) : (zeroValue 66).run Tryz.prog w = .ok zRu w := by kernel_rfl
theorem zero_len (n : Nat) : (Builtin.zeroCells zRu.cells n).toList.length = n * 14 := by
  have : zRu.cells.size = 14 := by decide
  simp [Builtin.zeroCells, this]
theorem zero_one (n : Nat) : ∀ q ∈ (Builtin.zeroCells zRu.cells n).toList, q.oneCell' = true := by
  intro q hq
  have hs : zRu.cells.size = 14 := by decide
  simp [Builtin.zeroCells] at hq
  obtain ⟨i, _, rfl⟩ := hq
  have hall : ∀ k : Fin 14, (zRu.cells[k.val]!).oneCell' = true := by decide
  have hlt : i % zRu.cells.size < 14 := by rw [hs]; exact Nat.mod_lt _ (by decide)
  exact hall ⟨_, hlt⟩

attribute [-go_sem] Builtin.append_
set_option maxRecDepth 100000 in
set_option maxHeartbeats 8000000 in
theorem delete_code (xs : List Ru) (vs : List Value) (B gr n cap i j : Nat) (W : World) (h : OwnU 66 14 ruC W B (.slice (some ⟨gr, 0, none⟩) n cap) xs vs) (hn : n = xs.length) (hij : i < j) (hj : j ≤ n) (hn1 : n ≤ 1000000) (ho : Each (fun x u => ∀ q ∈ ruC x u, q.oneCell' = true) xs vs) :
    Calls Tryz.prog 52 #[.slice (some ⟨gr, 0, none⟩) n cap, .int .i64 (i : Int), .int .i64 (j : Int)] W fun e W' => e = .returned (.slice (some ⟨gr, 0, none⟩) (i + (n - j)) cap) ∧ OwnU 66 14 ruC W' B (.slice (some ⟨gr, 0, none⟩) (i + (n - j)) cap) (xs.take i ++ xs.drop j) (vs.take i ++ vs.drop j) ∧ W.grownBy W' (some gr) := by
  obtain ⟨i0, hi0, hz0, hz1, hz2⟩ := info_parts infoRule
  have hlen : vs.length = xs.length := h.1
  have hrow : W.ownsRow B 66 14 (.slice (some ⟨gr, 0, none⟩) n cap) n (allL ruC xs vs) := by have := h.2; rwa [← hn] at this
  obtain ⟨hnc, hcm⟩ : n ≤ cap ∧ cap ≤ maxLen := by
    rcases hrow.2 with ⟨e, _⟩ | ⟨g, c, cur, e, _, _, h3, h4, _⟩
    · cases e
    · cases e; exact ⟨h3, h4⟩
  have htk := own_take hrow (k := i) (by omega)
  obtain ⟨news, hnews⟩ : ∃ q, q = (allL ruC xs vs).drop (j * 14) := ⟨_, rfl⟩
  have hnl : news.length = (n - j) * 14 := by rw [hnews, List.length_drop, hrow.1]; omega
  obtain ⟨A, hA, hsrc⟩ : ∃ A : Addr, (if cap = j then some (⟨gr, 0, none⟩ : Addr) else some ⟨gr, j * 14, none⟩) = some A ∧ ∀ t u, news[t]? = some u → W.cell? (A.add t) = some u := by
    by_cases hc : cap = j
    · refine ⟨⟨gr, 0, none⟩, by rw [if_pos hc], fun t u hu => ?_⟩
      have h0 : news.length = 0 := by rw [hnl]; omega
      rw [List.length_eq_zero_iff.1 h0] at hu
      simp at hu
    · refine ⟨⟨gr, j * 14, none⟩, by rw [if_neg hc], fun t u hu => ?_⟩
      have ht := (List.getElem?_eq_some_iff.1 hu).1
      rw [hnl] at ht
      rw [hnews, List.getElem?_drop] at hu
      rw [Addr.add_lit, hrow.cellAt (j * 14 + t) (by omega), hu]
  have hone : ∀ u ∈ news, u.oneCell' = true := fun u hu => allL_one xs vs ho u (by rw [hnews] at hu; exact List.mem_of_mem_drop hu)
  obtain ⟨W1, hrun, hown1, hgw1⟩ := run_append_own_spare (P := Tryz.prog) (w := W.drew) B 46 46 66 i0 14 Tryz.underlying46 hi0 hz1 gr i cap ((allL ruC xs vs).take (i * 14)) htk A (n - j) (cap - j) news hnl (fun t u hu => by rw [World.cell?_drew]; exact hsrc t u hu) hone (by omega)
  obtain ⟨cur1, hb1, hs1, ht1⟩ : ∃ cur, Blk W1 gr 66 cur ∧ cur.size = cap * 14 ∧ cur.toList.take ((i + (n - j)) * 14) = (allL ruC xs vs).take (i * 14) ++ news := by
    rcases hown1.2 with ⟨e, _⟩ | ⟨g, c, cur, e, _, h2, _, _, h5, h6⟩
    · cases e
    · cases e; exact ⟨cur, h2, h5, h6⟩
  have hBg : B ≤ gr := (hrow.lt gr rfl).1
  have hcl : ∀ ty, (Builtin.clear_ #[46] ty #[.slice (some ⟨gr, (i + (n - j)) * 14, none⟩) (n - (i + (n - j))) (cap - (i + (n - j)))]).run Tryz.prog W1 = .ok (.tuple #[]) (W1.setCells gr ((i + (n - j)) * 14) (Builtin.zeroCells zRu.cells (n - (i + (n - j)))).toList) := by
    intro ty
    refine run_clear_many W1 _ _ ty zRu Tryz.underlying46 zero_ru gr _ _ _ (by omega) (zero_one _) ?_ ?_
    · intro t ht
      rw [zero_len] at ht
      have hlt : (i + (n - j)) * 14 + t < cur1.size := by omega
      rw [hb1.cell' (Array.getElem?_eq_getElem hlt)]; rfl
    · intro t ht
      exact hb1.frozen _
  obtain ⟨cs', hb2, hs2, hk2, hg2⟩ := blk_setCells (Builtin.zeroCells zRu.cells (n - (i + (n - j)))).toList ((i + (n - j)) * 14) W1 cur1 hb1
  have hfin : OwnU 66 14 ruC (W1.setCells gr ((i + (n - j)) * 14) (Builtin.zeroCells zRu.cells (n - (i + (n - j)))).toList) B (.slice (some ⟨gr, 0, none⟩) (i + (n - j)) cap) (xs.take i ++ xs.drop j) (vs.take i ++ vs.drop j) := by
    have hlx : (xs.take i ++ xs.drop j).length = i + (n - j) := by simp; omega
    refine ⟨by simp; omega, ?_⟩
    rw [hlx, allL_app _ _ _ _ (by simp; omega), ← (allL_cut ruC_len xs vs hlen i (by omega)).1, ← (allL_cut ruC_len xs vs hlen j (by omega)).2, ← hnews]
    refine ⟨hown1.1, .inr ⟨gr, cap, cs', rfl, hBg, hb2, by omega, hcm, by rw [hs2, hs1], ?_⟩⟩
    rw [← ht1]
    refine List.ext_getElem? fun k => ?_
    by_cases hk : k < (i + (n - j)) * 14
    · rw [List.getElem?_take_of_lt hk, List.getElem?_take_of_lt hk, Array.getElem?_toList, Array.getElem?_toList, hk2 k hk]
    · rw [List.getElem?_take_eq_none (by omega), List.getElem?_take_eq_none (by omega)]
  obtain ⟨W2, hW2⟩ : ∃ V, V = W1.setCells gr ((i + (n - j)) * 14) (Builtin.zeroCells zRu.cells (n - (i + (n - j)))).toList := ⟨_, rfl⟩
  rw [← hW2] at hfin hg2 hcl
  have Z := Lib.hid (And.intro hfin (only_trans (only_drew (only_refl W (some gr))) (only_trans hgw1 hg2)))
  have hic : i ≤ cap := by omega
  have hjc : j ≤ cap := by omega
  have hcm2 : cap ≤ 9223372036854775807 := by unfold maxLen at hcm; omega
  obtain ⟨k, hk⟩ : ∃ k, k = i + (n - j) := ⟨_, rfl⟩
  have hkn : k ≤ n := by omega
  have hkc : k ≤ cap := by omega
  have hkne : ¬ cap = k := by omega
  rw [← hk] at hrun hcl ⊢
  have HK := Lib.hid hk
  clear h hn hlen hrow htk hnews hnl hsrc hone hown1 hgw1 hb1 hs1 ht1 hBg hb2 hs2 hk2 hg2 hfin hW2 ho hk hcm
  go_enter Tryz.func52, Tryz.ntmps52
  go_wp2_with (fail)
  go_region
  all_goals go_wp2_with (fail)
  all_goals
    go_ret
    refine ⟨rfl, ?_, Z.out.2⟩
    have h1 := Z.out.1
    rw [← HK.out] at h1
    exact h1
end Go.Proofs.YthpcbaamkeiffaaGreatDoor
