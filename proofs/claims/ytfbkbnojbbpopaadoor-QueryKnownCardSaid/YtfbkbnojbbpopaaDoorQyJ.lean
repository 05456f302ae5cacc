/-
  query's pieces, walked as an iterator: it yields the pieces that are not empty; condition: the consumer goes on.
-/
import Derived.Test.YtfbkbnojbbpopaaDoorQyI
import Derived.Test.YtfbkbnojbbpopaaDoorRow
namespace Go.Proofs.YtfbkbnojbbpopaaDoor
open Go.RowKit Go.Shelf
set_option linter.unusedVariables false
set_option linter.unusedSimpArgs false
attribute [local go_sem] Oper.semAt_some

set_option maxHeartbeats 1000000 in
theorem qsplitseq (s c : ByteArray) (w : World) :
    Calls Tryd.prog 52 #[.string s, .string c] w fun e W' => e = .returned (.func (.func 76) #[] #[.pointer (some ⟨w.heap.size + 1, 0, none⟩), .pointer (some ⟨w.heap.size, 0, none⟩), .pointer (some ⟨w.heap.size + 2, 0, none⟩)]) ∧
      W' = ((w.alloc (.cells #[.string s] 9)).alloc (.cells #[.string c] 9)).alloc (.cells #[.int .i64 0] 3) := by
  have hmf : ∀ (fn : Fn) (first cap : Array Value) (w : World), (Instr.makeFunc fn first cap).run Tryd.prog w = .ok (.func fn first cap) w := fun _ _ _ _ => rfl
  have h1 : Calls Tryd.prog 69 #[.string s, .string c, .int .i64 0] w fun e W' => e = .returned (.func (.func 76) #[] #[.pointer (some ⟨w.heap.size + 1, 0, none⟩), .pointer (some ⟨w.heap.size, 0, none⟩), .pointer (some ⟨w.heap.size + 2, 0, none⟩)]) ∧
      W' = ((w.alloc (.cells #[.string s] 9)).alloc (.cells #[.string c] 9)).alloc (.cells #[.int .i64 0] 3) := by
    go_enter Tryd.func69, Tryd.ntmps69
    go_wp2_with (fail)
    go_ret
    exact ⟨by simp, rfl⟩
  have H1 := Lib.hid h1
  clear h1
  go_enter Tryd.func52, Tryd.ntmps52
  go_wp2_with (fail)
  refine H1.out.mono ?_
  rintro e W1 ⟨rfl, rfl⟩
  go_wp2_with (fail)
  go_ret
  exact ⟨rfl, rfl⟩

set_option maxHeartbeats 1000000 in
theorem qpieces (s : ByteArray) (w : World) :
    Calls Tryd.prog 37 #[.string s] w fun e W' => e = .returned (.func (.func 51) #[] #[.pointer (some ⟨w.heap.size, 0, none⟩)]) ∧ W' = w.alloc (.cells #[.string s] 9) := by
  have hmf : ∀ (fn : Fn) (first cap : Array Value) (w : World), (Instr.makeFunc fn first cap).run Tryd.prog w = .ok (.func fn first cap) w := fun _ _ _ _ => rfl
  go_enter Tryd.func37, Tryd.ntmps37
  go_wp2_with (fail)
  go_ret
  exact ⟨rfl, rfl⟩

/-- The pieces that are not empty. -/
def neP (xs : List (List UInt8)) : List (List UInt8) := xs.filter (fun p => !p.isEmpty)
theorem neP_nil (xs : List (List UInt8)) : neP (xs ++ [[]]) = neP xs := by unfold neP; rw [List.filter_append]; simp
theorem neP_one (xs : List (List UInt8)) {x : List UInt8} (h : x ≠ []) : neP (xs ++ [x]) = neP xs ++ [x] := by
  unfold neP
  rw [List.filter_append]
  cases x with
  | nil => exact absurd rfl h
  | cons a t => rfl
def PcJ (N0 bq : Nat) (l : List UInt8) (K : List (List UInt8) → World → Prop) (xs : List (List UInt8)) (W : World) : Prop := K xs W ∧ Blk W bq 9 #[.string (mkB l)] ∧ N0 ≤ W.heap.size
def PcY (N0 bq : Nat) (l : List UInt8) (K : List (List UInt8) → World → Prop) (xs : List (List UInt8)) (x : List UInt8) (W : World) : Prop := PcJ N0 bq l K xs W ∧ x ≠ [] ∧ x.length ≤ l.length ∧ (xs ++ [x]).length ≤ l.length + 1
def PcZ (l : List UInt8) (K : List (List UInt8) → World → Prop) (xs : List (List UInt8)) (W : World) : Prop := K xs W ∧ xs = neP (splitL 38 l)
/-- What a round keeps: blocks that are no lists of pairs. -/
abbrev KpP (B : Nat) (W W' : World) : Prop := Others 44 B W W'
theorem kpP_put (B : Nat) : ∀ W W3 l r r' r2 r2', W.heap[l]? = some (.loop r) → W3.heap[l]? = some (.loop r2) → KpP B (W.putObj l (.loop r')) W3 → KpP B W (W3.putObj l (.loop r2')) := by
  intro W W3 l r r' r2 r2' h1 h2 h k t cs hb hk ht
  have hne : k ≠ l := by rintro rfl; unfold Blk at hb; rw [h1] at hb; cases hb
  exact (World.putObj_heap_other hne).trans (h k t cs ((World.putObj_heap_other hne).trans hb) hk ht)
/-- What the inner loop's consumer knows. -/
def Kin (N0 bq bt lp : Nat) (l : List UInt8) (K : List (List UInt8) → World → Prop) (R : World → Prop) (xs : List (List UInt8)) (W : World) : Prop :=
  PcJ N0 bq l K (neP xs) W ∧ R W ∧ Blk W bt 38 #[.func (.yield lp) #[] #[]] ∧ xs.length ≤ (splitL 38 l).length ∧ (∃ r, xs ++ r = splitL 38 l)

theorem kin_stays {N0 bq bt lp B0 M : Nat} {l : List UInt8} {K : List (List UInt8) → World → Prop} {R : World → Prop} (hK : Stays B0 K) (hB : B0 ≤ bt + 1) (hN : N0 ≤ bt + 1) (hM : M + 2 = N0) (hq : bq < bt + 1)
    (hR : ∀ W W', R W → W'.heap[M]? = W.heap[M]? → W'.heap[M + 1]? = W.heap[M + 1]? → R W') : Stays (bt + 1) (Kin N0 bq bt lp l K R) where
  set_ := by
    rintro xs W b v u ⟨⟨h1, h2, h3⟩, h4, h5, h6⟩ hb hle
    refine ⟨⟨hK.set_ _ _ _ _ _ h1 hb (by omega), h2.far (by show bq ≠ b; omega) _, by simpa using h3⟩, hR _ _ h4 (Below.heap_setCell _ _ _ _ (by show M ≠ b; omega)) (Below.heap_setCell _ _ _ _ (by show M + 1 ≠ b; omega)), h5.far (by show bt ≠ b; omega) _, h6⟩
  alloc := by
    rintro xs W o ⟨⟨h1, h2, h3⟩, h4, h5, h6⟩
    exact ⟨⟨hK.alloc _ _ _ h1, h2.alloc _, by simp; omega⟩, hR _ _ h4 (Below.heap_alloc _ _ _ (by omega)) (Below.heap_alloc _ _ _ (by omega)), h5.alloc _, h6⟩
  put := by
    rintro xs W k o o' ⟨⟨h1, h2, h3⟩, h4, h5, h6⟩ hk ho hc
    exact ⟨⟨hK.put _ _ _ _ _ h1 (by omega) ho hc, (World.putObj_heap_other (by omega)).trans h2, by simpa [World.putObj] using h3⟩, hR _ _ h4 (World.putObj_heap_other (by omega)) (World.putObj_heap_other (by omega)), (World.putObj_heap_other (by omega)).trans h5, h6⟩
  drewN := by
    rintro xs W n ⟨⟨h1, h2, h3⟩, h4, h5, h6⟩
    exact ⟨⟨hK.drewN _ _ _ h1, h2, h3⟩, hR _ _ h4 rfl rfl, h5, h6⟩

set_option maxRecDepth 100000 in
set_option maxHeartbeats 4000000 in
theorem pieces_iter (n1 : Nat) (hn1 : 3 ≤ n1) (l : List UInt8) (hl : l.length ≤ 1000000000) (B0 M B : Nat) (K : List (List UInt8) → World → Prop) (hK : Stays B0 K) (lp bq : Nat) (hBM : B0 ≤ M) (hq : bq < M) (hBq : B < M)
    (R : World → Prop) (hR : ∀ W W', R W → W'.heap[M]? = W.heap[M]? → W'.heap[M + 1]? = W.heap[M + 1]? → R W')
    (hY : ∀ pre x W, PcY (M + 2) bq l K pre x W → R W → YieldAt Fence.wide (n1 - 1) Tryd.prog lp (encS1 x) W fun e W' => e = .returned (.bool true) ∧ PcJ (M + 2) bq l K (pre ++ [x]) W' ∧ R W' ∧ KeepsFrom (M + 2) W W' ∧ KpP B W W')
    (W : World) (h0 : PcJ (M + 2) bq l K [] W) (hRW : R W) :
    CallsIn Fence.wide n1 Tryd.prog 51 (#[.func (.yield lp) #[] #[]] ++ #[.pointer (some ⟨bq, 0, none⟩)]) W fun e W' => (∃ v, e = .returned v) ∧ R W' ∧ ∃ xs, PcZ l K xs W' := by
  have hz := h0.2.2
  have q1 := (h0.2.1.alloc (.cells #[.func (.yield lp) #[] #[]] 38)).cell' (i := 0) rfl
  have bt0 := Blk.new W 38 #[.func (.yield lp) #[] #[]]
  have S0 := kin_stays (M := M) (N0 := M + 2) (bt := W.heap.size) (bq := bq) (lp := lp) (l := l) hK (by omega) (by omega) rfl (by omega) hR
  have h1n : 1 ≤ n1 := by omega
  have H0 := Lib.hid (And.intro h0 (And.intro hRW (And.intro bt0 (And.intro hR (And.intro hY (And.intro S0 hK))))))
  clear h0 hRW bt0 hR hY hK S0
  refine callsIn_of_wp_marks Tryd.func51 rfl trivial ?_ rfl
  simp only [Tryd.ntmps51, List.size_toArray, List.length_cons, List.length_nil, Nat.reduceAdd, Nat.reduceSub, Array.replicate_succ, Array.replicate_zero, List.push_toArray, List.append_toArray, List.nil_append, List.cons_append]
  gi_wp2_with (fail)
  refine ⟨by first | trivial | exact fun _ => by omega, (callsIn_wide.2 (qsplitseq (mkB l) ⟨#[38]⟩ _)).mono ?_⟩
  rintro e w' ⟨rfl, hw'⟩
  obtain ⟨w1, hw1⟩ : ∃ w1, w1 = w' := ⟨_, rfl⟩
  rw [World.size_alloc]
  have hsz : w1.heap.size = W.heap.size + 4 := by rw [hw1, hw']; simp
  have k1 : Kin (M + 2) bq W.heap.size lp l K R [] w1 := by
    rw [hw1, hw']
    exact H0.out.2.2.2.2.2.1.alloc _ _ _ (H0.out.2.2.2.2.2.1.alloc _ _ _ (H0.out.2.2.2.2.2.1.alloc _ _ _ ⟨⟨H0.out.2.2.2.2.2.2.alloc _ _ _ H0.out.1.1, H0.out.1.2.1.alloc _, by simp; omega⟩, H0.out.2.2.2.1 _ _ H0.out.2.1 (Below.heap_alloc _ _ _ (by omega)) (Below.heap_alloc _ _ _ (by omega)), H0.out.2.2.1, Nat.zero_le _, _, rfl⟩))
  have x1 : SpBox (W.heap.size + 1 + 1) (W.heap.size + 1) (W.heap.size + 1 + 2) 38 l w1 := by
    rw [hw1, hw']
    exact ⟨(blk_at (by simp)).alloc _, ((blk_at (by simp)).alloc _).alloc _, blk_at (by simp)⟩
  rw [← hw1]
  have K1 := Lib.hid (And.intro k1 x1)
  clear hw' hw1 k1 x1
  gi_wp2_with (fail)
  refine wpIn_range_kept rfl (by omega) (gf := 76) (lb := #[.pointer (some ⟨W.heap.size + 1 + 1, 0, none⟩), .pointer (some ⟨W.heap.size + 1, 0, none⟩), .pointer (some ⟨W.heap.size + 1 + 2, 0, none⟩)]) rfl trivial (enters_of Tryd.func76 (by kernel_rfl) rfl) (encs := encS1) (fun _ => rfl)
    (fun _ _ => True) (fun _ _ _ _ _ _ _ _ _ _ => trivial)
    (SpJ (W.heap.size + 1 + 1) (W.heap.size + 1) (W.heap.size + 1 + 2) 38 l (Kin (M + 2) bq W.heap.size lp l K R)) (SpZ 38 l (Kin (M + 2) bq W.heap.size lp l K R)) (SpY (W.heap.size + 1 + 1) (W.heap.size + 1) (W.heap.size + 1 + 2) 38 l (Kin (M + 2) bq W.heap.size lp l K R)) ?hJ ?hY ?hZ ?hstart
    (fun x => { tmps := #[.func (.yield lp) #[] #[], .pointer (some ⟨bq, 0, none⟩), .pointer (some ⟨W.heap.size, 0, none⟩), .string (mkB x), .string (mkB l), .func (.func 76) #[] #[.pointer (some ⟨W.heap.size + 1 + 1, 0, none⟩), .pointer (some ⟨W.heap.size + 1, 0, none⟩), .pointer (some ⟨W.heap.size + 1 + 2, 0, none⟩)], .string (mkB x), undef, undef, undef, undef, undef, undef, undef, undef], defers := [] }) ?hit ?assign ?body ?done
  case hJ =>
    rintro xs X k r r' ⟨h1, h2⟩ hl hr
    exact ⟨H0.out.2.2.2.2.2.1.put _ _ _ _ _ h1 (by omega) hr rfl, h2.put _ _ (by omega) (by omega) (by omega)⟩
  case hY =>
    rintro xs x X k r r' ⟨h1, h2, h3⟩ hl hr
    exact ⟨H0.out.2.2.2.2.2.1.put _ _ _ _ _ h1 (by omega) hr rfl, h2.put _ _ (by omega) (by omega) (by omega), h3⟩
  case hZ =>
    rintro xs X k r r' ⟨h1, h2⟩ hl hr
    exact ⟨H0.out.2.2.2.2.2.1.put _ _ _ _ _ h1 (by omega) hr rfl, h2⟩
  case hstart =>
    intro o o'
    exact ⟨H0.out.2.2.2.2.2.1.alloc _ _ _ (H0.out.2.2.2.2.2.1.alloc _ _ _ K1.out.1), (K1.out.2.alloc _).alloc _⟩
  case hit =>
    intro li Ri hRi hYi X h0 hRX
    refine split_iter _ (by omega) 38 l hl _ _ H0.out.2.2.2.2.2.1 li _ _ _ (by omega) (by omega) (by omega) Ri (fun Y v hv => hRi _ _ hv (Below.heap_setCell _ _ _ _ (by show w1.heap.size ≠ W.heap.size + 1; omega)) (Below.heap_setCell _ _ _ _ (by show w1.heap.size + 1 ≠ W.heap.size + 1; omega))) ?_ X h0 hRX
    intro pre x Y hy hr
    exact (hYi pre x Y hy hr).mono fun e W' ⟨a1, a2, a3, _⟩ => ⟨a1, a2, a3⟩
  case assign =>
    intro l' x Y Kk hK
    unfold encS1
    gi_wp2
    exact hK
  case body =>
    rintro l' pre x Y ⟨⟨⟨h1, h2, h3⟩, h4, h5, h6, h7⟩, h8, h9, h10, h11⟩
    have t0 := h5.cell' (i := 0) rfl
    have hxl : x.length ≤ l.length ∧ pre.length + 1 ≤ l.length + 1 := by
      refine ⟨?_, ?_⟩
      · rw [h9]
        have : (preL 38 (restN 38 l pre.length)).length ≤ (restN 38 l pre.length).length := by
          by_cases hm : 38 ∈ restN 38 l pre.length
          · have := congrArg List.length (pre_app hm).1
            rw [List.length_append] at this
            omega
          · rw [(pre_none hm).1]; exact Nat.le_refl _
        exact Nat.le_trans this (rest_len 38 l _)
      · have := splitL_len 38 l; omega
    have hsp : (∃ r, (pre ++ [x]) ++ r = splitL 38 l) ∧ (pre ++ [x]).length ≤ (splitL 38 l).length := by
      have e1 := (split_take 38 l pre.length h11).1
      rw [← h9, ← h10] at e1
      rw [← e1]
      exact ⟨⟨_, List.take_append_drop _ _⟩, by rw [List.length_take]; omega⟩
    have hsz0 : M + 2 ≤ W.heap.size := hz
    by_cases hx : x = []
    · subst hx
      have e0 : mkB ([] : List UInt8) = ⟨#[]⟩ := rfl
      rw [e0]
      have HF := Lib.hid (And.intro (⟨⟨by rw [neP_nil]; exact h1, h2, h3⟩, h4, h5, hsp.2, hsp.1⟩ : Kin (M + 2) bq W.heap.size lp l K R (pre ++ [[]]) Y) h8)
      clear h1 h2 h3 h4 h5 h6 h7 h8 h9 h10 hsp hxl
      gi_wp2
      refine ⟨by simp, ?_⟩
      gi_wp2
      refine ⟨KeepsFrom.refl _ _, ⟨HF.out.1, ?_⟩⟩
      rw [List.length_append, List.length_singleton, Nat.add_sub_cancel]
      exact HF.out.2
    · have hne := nonempty_b (mkB x) (by rw [mkB_size]; exact List.length_pos_iff.2 hx)
      have hlenp : ((neP pre) ++ [x]).length ≤ l.length + 1 := by
        rw [List.length_append, List.length_singleton]
        have : (neP pre).length ≤ pre.length := List.length_filter_le _ _
        omega
      obtain ⟨fn, tmps, assign, body, hy, hRd⟩ := yield_any rfl (n1 - 1 - 1 - 1) (H0.out.2.2.2.2.1 (neP pre) x Y ⟨⟨h1, h2, h3⟩, hx, hxl.1, hlenp⟩ h4)
      simp only [encS1] at hy
      have HF := Lib.hid (And.intro h5 (And.intro h8 (And.intro hsp hx)))
      clear h1 h2 h3 h4 h5 h6 h7 h8 h9 h10 hsp hxl hlenp hx
      gi_wp2
      refine ⟨by first | trivial | exact fun _ => by omega, RoundIn.mono (F := Fence.wide.inRound l') hRd ?_⟩
      rintro e' W4 ⟨rfl, hj, hr', hk4, ho4⟩
      have H4 := Lib.hid (And.intro hj (And.intro hr' (And.intro hk4 ho4)))
      clear hj hr' hk4 ho4 hy hRd
      gi_wp2
      obtain ⟨hj, hr', hk4, ho4⟩ := H4.out
      obtain ⟨h5, h8, hsp, hx⟩ := HF.out
      refine ⟨⟨hk4.size, fun k o hk ho hc => hk4.same k o (by omega) ho hc⟩, ⟨⟨by rw [neP_one _ hx]; exact hj, hr', ho4 _ _ _ h5 (by omega) (by decide), hsp.2, hsp.1⟩, ?_⟩⟩
      rw [List.length_append, List.length_singleton, Nat.add_sub_cancel]
      exact ⟨ho4 _ _ _ h8.1 (by omega) (by decide), ho4 _ _ _ h8.2.1 (by omega) (by decide), ho4 _ _ _ h8.2.2 (by omega) (by decide)⟩
  case done =>
    rintro D xs Y hD ⟨⟨⟨h1, h2, h3⟩, h4, h5, h6⟩, rfl⟩ hKD
    have HZ := Lib.hid (And.intro h1 h4)
    clear h1 h2 h3 h4 h5 h6
    gi_wp2
    refine ⟨by simp, .inl ⟨_, _, rfl, run_takeDeferred hKD, ?_⟩⟩
    refine ⟨_, results_none rfl _ _ _, ⟨_, rfl⟩, ?_, _, H0.out.2.2.2.2.2.2.put _ _ _ _ _ HZ.out.1 (by omega) hKD rfl, rfl⟩
    exact H0.out.2.2.2.1 _ _ HZ.out.2 (World.putObj_heap_other (by omega)) (World.putObj_heap_other (by omega))
end Go.Proofs.YtfbkbnojbbpopaaDoor
