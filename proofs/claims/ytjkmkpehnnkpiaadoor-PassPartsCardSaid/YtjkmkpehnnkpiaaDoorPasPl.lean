/-
  Plain laws of a run in two parts; no condition.
-/
import Derived.Test.YtjkmkpehnnkpiaaDoorPasW
import Derived.Test.YtjkmkpehnnkpiaaDoorPasZ
namespace Go.Proofs.YtjkmkpehnnkpiaaDoor
open Go.RowKit Go.Joins Go.Shelf
set_option linter.unusedVariables false
set_option linter.unusedSimpArgs false

/-- The answers behind the first k. -/
def later (G : Nat → Bool) (k : Nat) : Nat → Bool := fun j => G (k + j)
theorem ansL_some {G : Nat → Bool} {m r i : Nat} (h : i < m) : ansL G m r i = some (G i) := by unfold ansL; rw [if_pos h]
theorem ansL_none {G : Nat → Bool} {m r i : Nat} (h : ¬ i < m) : ansL G m r i = none := by unfold ansL; rw [if_neg h]
theorem at_agree (F : Nat → Flg) (n : Nat) (G : Nat → Bool) {k m : Nat} (hkm : k ≤ m) (a0 : Nat) : ∀ j, j ≤ k → atN F n (ansL G k) a0 j = atN F n (ansL G m) a0 j
  | 0, _ => rfl
  | j + 1, hj => by
    rw [at_succ (ansL_some (show j < k by omega)), at_succ (ansL_some (show j < m by omega)), at_agree F n G hkm a0 j (by omega)]
theorem en_agree (F : Nat → Flg) (n : Nat) (G : Nat → Bool) {k m : Nat} (hkm : k ≤ m) (a0 : Nat) (e0 : Bool) : ∀ j, j ≤ k → enN F n (ansL G k) a0 e0 j = enN F n (ansL G m) a0 e0 j
  | 0, _ => rfl
  | j + 1, hj => by
    rw [en_succ (ansL_some (show j < k by omega)), en_succ (ansL_some (show j < m by omega)), at_agree F n G hkm a0 j (by omega)]
theorem at_shift (F : Nat → Flg) (n : Nat) (G : Nat → Bool) {k m : Nat} (hkm : k ≤ m) (a0 : Nat) : ∀ j, j ≤ m - k → atN F n (ansL (later G k) (m - k)) (atN F n (ansL G m) a0 k) j = atN F n (ansL G m) a0 (k + j)
  | 0, _ => rfl
  | j + 1, hj => by
    rw [at_succ (ansL_some (show j < m - k by omega)), at_shift F n G hkm a0 j (by omega), show k + (j + 1) = (k + j) + 1 from rfl, at_succ (ansL_some (show k + j < m by omega))]
    rfl
theorem en_shift (F : Nat → Flg) (n : Nat) (G : Nat → Bool) {k m : Nat} (hkm : k ≤ m) (a0 : Nat) (e0 : Bool) : ∀ j, j ≤ m - k → enN F n (ansL (later G k) (m - k)) (atN F n (ansL G m) a0 k) (enN F n (ansL G m) a0 e0 k) j = enN F n (ansL G m) a0 e0 (k + j)
  | 0, _ => rfl
  | j + 1, hj => by
    rw [en_succ (ansL_some (show j < m - k by omega)), at_shift F n G hkm a0 j (by omega), show k + (j + 1) = (k + j) + 1 from rfl, en_succ (ansL_some (show k + j < m by omega))]
    rfl
theorem tried_cat (F : Nat → Flg) (n : Nat) (ans ans1 ans2 : Nat → Nat → Option Bool) (a0 a1 i1 i2 : Nat) (h1 : ∀ j, j < i1 → atN F n ans1 a0 j = atN F n ans a0 j) (h2 : ∀ j, j < i2 → atN F n ans2 a1 j = atN F n ans a0 (i1 + j)) :
    triedN F n ans a0 (i1 + i2) = triedN F n ans1 a0 i1 ++ triedN F n ans2 a1 i2 := by
  unfold triedN
  rw [List.range_add, List.map_append, List.map_map]
  congr 1
  · exact List.map_congr_left fun j hj => (h1 j (List.mem_range.mp hj)).symm
  · exact List.map_congr_left fun j hj => (h2 j (List.mem_range.mp hj)).symm
/-- A run in two parts is the run at once. -/
theorem parts_plain {F : Nat → Flg} {n : Nat} {G : Nat → Bool} {k m i1 i2 i t1 : Nat} {e1 : Bool} (hkm : k ≤ m) (h1 : i1 ≤ k) (H1 : Halt F n (ansL G k) 0 i1) (G1 : Good F n (ansL G k) 0 i1)
    (ht : t1 = atN F n (ansL G k) 0 i1) (he : e1 = enN F n (ansL G k) 0 false i1) (h2 : i2 ≤ m - k) (H2 : Halt F n (ansL (later G k) (m - k)) t1 i2) (G2 : Good F n (ansL (later G k) (m - k)) t1 i2)
    (h : i ≤ m) (H : Halt F n (ansL G m) 0 i) (G0 : Good F n (ansL G m) 0 i) :
    i = i1 + i2 ∧ atN F n (ansL G m) 0 i = atN F n (ansL (later G k) (m - k)) t1 i2 ∧ enN F n (ansL G m) 0 false i = enN F n (ansL (later G k) (m - k)) t1 e1 i2 ∧
    triedN F n (ansL G m) 0 i = triedN F n (ansL G k) 0 i1 ++ triedN F n (ansL (later G k) (m - k)) t1 i2 := by
  have good1 : Good F n (ansL G m) 0 i1 := fun j hj => by
    obtain ⟨q, _⟩ := G1 j hj
    rw [at_agree F n G hkm 0 j (by omega)] at q
    exact ⟨q, _, ansL_some (by omega)⟩
  by_cases hc : i1 = k
  · subst hc
    rw [at_agree F n G hkm 0 i1 (Nat.le_refl _)] at ht
    rw [en_agree F n G hkm 0 false i1 (Nat.le_refl _)] at he
    subst ht he
    have hs := at_shift F n G hkm 0
    have hi : i = i1 + i2 := by
      refine steps_unique H G0 ?_ ?_
      · rcases H2 with q | q
        · left; rw [← hs i2 h2]; exact q
        · right
          by_cases e : i2 < m - i1
          · rw [ansL_some e] at q; cases q
          · exact ansL_none (by omega)
      · intro j hj
        by_cases e : j < i1
        · exact good1 j e
        · obtain ⟨q, _⟩ := G2 (j - i1) (by omega)
          rw [hs (j - i1) (by omega), show i1 + (j - i1) = j by omega] at q
          exact ⟨q, _, ansL_some (by omega)⟩
    subst hi
    exact ⟨rfl, (hs i2 h2).symm, (en_shift F n G hkm 0 false i2 h2).symm, tried_cat F n _ _ _ 0 _ i1 i2 (fun j hj => at_agree F n G hkm 0 j (by omega)) (fun j hj => hs j (by omega))⟩
  · have hh : ¬ atN F n (ansL G k) 0 i1 < n := by
      rcases H1 with q | q
      · exact q
      · rw [ansL_some (show i1 < k by omega)] at q; cases q
    have hi2 : i2 = 0 := by
      rcases Nat.eq_zero_or_pos i2 with e | e
      · exact e
      · have := (G2 0 e).1
        rw [← ht] at hh
        exact absurd this hh
    subst hi2
    have hi : i = i1 := steps_unique H G0 (Or.inl (by rw [← at_agree F n G hkm 0 i1 h1]; exact hh)) good1
    subst hi
    refine ⟨rfl, ?_, ?_, ?_⟩
    · show _ = t1; rw [ht]; exact (at_agree F n G hkm 0 i h1).symm
    · show _ = e1; rw [he]; exact (en_agree F n G hkm 0 false i h1).symm
    · exact tried_cat F n _ _ _ 0 t1 i 0 (fun j hj => at_agree F n G hkm 0 j (by omega)) (fun j hj => absurd hj (by omega))
theorem passE_at {F : Nat → Flg} {n : Nat} {ans : Nat → Nat → Option Bool} {i : Nat} (hf : flagsE F n = 0) (hg : Good F n ans 0 i) : passE F n (atN F n ans 0 i : Int) (enN F n ans 0 false i) = 0 := by
  have h1 := atN_le F n ans 0 (Nat.zero_le _) i
  unfold passE
  rw [if_pos hf, if_neg (by omega), if_neg]
  rintro ⟨a, b⟩
  rw [en_false (fun _ => rfl) hg (by omega)] at a
  cases a
theorem Cells.take {W : World} {A : Option Addr} {m n k : Nat} {f : Nat → Nat → Value} (h : Cells W A m n f) (hk : k ≤ n) : Cells W A m k f := by
  intro hp
  obtain ⟨b, o, e, h1, h2⟩ := h (by omega)
  exact ⟨b, o, e, h1, fun i j hi hj => h2 i j (by omega) hj⟩
theorem Cells.offs {W : World} {b o m n k : Nat} {f : Nat → Nat → Value} (h : Cells W (some ⟨b, o, none⟩) m n f) (hk : k ≤ n) : Cells W (some ⟨b, o + k * m, none⟩) m (n - k) fun i j => f (k + i) j := by
  intro hp
  obtain ⟨ab, ao, e, h1, h2⟩ := h (by omega)
  cases e
  refine ⟨_, _, rfl, h1, fun i j hi hj => ?_⟩
  have := h2 (k + i) j (by omega) hj
  rw [Nat.add_mul] at this
  rw [show o + k * m + i * m + j = o + (k * m + i * m) + j by omega]
  exact this
theorem Cells.from_ {W : World} {C : Option Addr} {r k dc : Nat} {f : Nat → Nat → Value} (h : Cells W C 1 r f) (hk : k ≤ r) (hd : r ≤ dc) : Cells W (if dc = k then C else Option.map (fun x => x.add k) C) 1 (r - k) fun i j => f (k + i) j := by
  intro hp
  rw [if_neg (by omega)]
  obtain ⟨b, o, rfl, h1, h2⟩ := h (by omega)
  obtain ⟨b', o', e, h3, h4⟩ := (Cells.offs (fun _ => ⟨b, o, rfl, h1, h2⟩ : Cells W (some ⟨b, o, none⟩) 1 r f) hk) hp
  refine ⟨b', o', ?_, h3, h4⟩
  rw [← e]
  simp [Addr.add]
theorem cells_store3 {w : World} {B : Option Addr} {n g : Nat} {f : Nat → Nat → Value} {T : TypeId} {cs : Array Value} (h : Cells w B 10 n f) (hb : Blk w g T cs) (hs : cs.size ≤ 9) (i : Nat) (u : Value) : Cells (w.setCell ⟨g, i, none⟩ u) B 10 n f := by
  intro hn
  refine (h.far (fun a ha e => ?_) i u) hn
  obtain ⟨b, off, h1, _, h2⟩ := h hn
  rw [ha] at h1
  cases h1
  have h3 := h2 0 9 hn (by decide)
  simp only at e
  subst e
  rw [hb.cell, Array.getElem?_eq_none (by omega)] at h3
  cases h3
theorem cells_pass3 {w : World} {B : Option Addr} {n g : Nat} {f : Nat → Nat → Value} {T : TypeId} {x y z : Value} (h : Cells w B 10 n f) (hb : Blk w g T #[x, y, z]) (a b c : Value) : Cells (((w.setCell ⟨g, 0, none⟩ a).setCell ⟨g, 1, none⟩ b).setCell ⟨g, 2, none⟩ c) B 10 n f :=
  cells_store3 (cells_store3 (cells_store3 h hb (by simp) 0 a) (hb.set_ 0 a) (by simp) 1 b) ((hb.set_ 0 a).set_ 1 b) (by simp) 2 c
theorem own_pass3 {w : World} {base : Nat} {e : TypeId} {size : Nat} {v : Value} {n : Nat} {xs : List Value} {t : TypeId} {x y z : Value} {g : Nat} (h : w.ownsRow base e size v n xs) (hb : Blk w g t #[x, y, z]) (hne : e ≠ t) (a b c : Value) : (((w.setCell ⟨g, 0, none⟩ a).setCell ⟨g, 1, none⟩ b).setCell ⟨g, 2, none⟩ c).ownsRow base e size v n xs :=
  own_setCell (own_setCell (own_setCell h hb hne a) (hb.set_ 0 a) hne b) ((hb.set_ 0 a).set_ 1 b) hne c
theorem blk_pass3 {w : World} {t : TypeId} {x y z : Value} {g : Nat} (hb : Blk w g t #[x, y, z]) (a b c : Value) : Blk (((w.setCell ⟨g, 0, none⟩ a).setCell ⟨g, 1, none⟩ b).setCell ⟨g, 2, none⟩ c) g t #[a, b, c] := ((hb.set_ 0 a).set_ 1 b).set_ 2 c
/-- A run's pass in a block of its own, and its list. -/
def RunAt (F : Nat → Flg) (q : Nat) (g : Nat → Bool) (k a0 : Nat) (e0 : Bool) (W0 : World) (i : Nat) (v12 v13 : Value) (wx : World) : Prop :=
  i ≤ k ∧ Halt F q (ansL g k) a0 i ∧ Good F q (ansL g k) a0 i ∧ Below W0.heap.size W0 wx ∧ wx.ownsRow W0.heap.size 3 1 v13 i (intL (triedN F q (ansL g k) a0 i)) ∧
  ∃ B d X, v12 = .pointer (some ⟨X, 0, none⟩) ∧ W0.heap.size ≤ X ∧ Blk wx X 30 #[.slice B q d, .int .i64 (atN F q (ansL g k) a0 i : Int), .bool (enN F q (ansL g k) a0 e0 i)] ∧ Cells wx B 10 q (flgAt F) ∧ ArgOk B q d
theorem runAt_new {F : Nat → Flg} {q : Nat} {g : Nat → Bool} {k a0 : Nat} {e0 : Bool} {W0 W : World} {i : Nat} {v : Value} {B : Option Addr} {d : Nat} (h1 : i ≤ k) (h2 : Halt F q (ansL g k) a0 i) (h3 : Good F q (ansL g k) a0 i) (h4 : Below W0.heap.size W0 W) (h5 : W.ownsRow W0.heap.size 3 1 v i (intL (triedN F q (ansL g k) a0 i))) (h6 : Cells W B 10 q (flgAt F)) (h7 : ArgOk B q d) :
    RunAt F q g k a0 e0 W0 i (.pointer (some ⟨W.heap.size, 0, none⟩)) v (W.alloc (.cells #[.slice B q d, .int .i64 (atN F q (ansL g k) a0 i : Int), .bool (enN F q (ansL g k) a0 e0 i)] 30)) :=
  ⟨h1, h2, h3, gr_alloc h4 _, h5.alloc _, B, d, W.heap.size, rfl, h4.size, Blk.new _ _ _, h6.below (gr_alloc (Below.refl _ _) _), h7⟩
theorem runAt_old {F : Nat → Flg} {q : Nat} {g : Nat → Bool} {k a0 : Nat} {e0 : Bool} {W0 W : World} {i X : Nat} {v x y z : Value} {B : Option Addr} {d : Nat} (h1 : i ≤ k) (h2 : Halt F q (ansL g k) a0 i) (h3 : Good F q (ansL g k) a0 i) (h4 : Below W0.heap.size W0 W) (h5 : W.ownsRow W0.heap.size 3 1 v i (intL (triedN F q (ansL g k) a0 i))) (h6 : Cells W B 10 q (flgAt F)) (h7 : ArgOk B q d) (h8 : Blk W X 30 #[x, y, z]) (h9 : W0.heap.size ≤ X) :
    RunAt F q g k a0 e0 W0 i (.pointer (some ⟨X, 0, none⟩)) v (((W.setCell ⟨X, 0, none⟩ (.slice B q d)).setCell ⟨X, 1, none⟩ (.int .i64 (atN F q (ansL g k) a0 i : Int))).setCell ⟨X, 2, none⟩ (.bool (enN F q (ansL g k) a0 e0 i))) :=
  ⟨h1, h2, h3, gr_set (gr_set (gr_set h4 h9 _) h9 _) h9 _, own_pass3 h5 h8 (by decide) _ _ _, B, d, X, rfl, h9, blk_pass3 h8 _ _ _, cells_pass3 h6 h8 _ _ _, h7⟩
end Go.Proofs.YtjkmkpehnnkpiaaDoor
