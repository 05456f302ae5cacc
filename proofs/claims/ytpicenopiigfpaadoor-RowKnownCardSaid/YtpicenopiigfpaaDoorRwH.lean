/-
  row's lines, walked as an iterator over an iterator: it yields the lines with their offsets, until the consumer stops; no condition.
-/
import Derived.Test.YtpicenopiigfpaaDoorRwI
import Derived.Test.YtpicenopiigfpaaDoorRow
namespace Go.Proofs.YtpicenopiigfpaaDoor
open Go.RowKit Go.Shelf
set_option linter.unusedVariables false
set_option linter.unusedSimpArgs false
attribute [local go_sem] Oper.semAt_some

set_option maxHeartbeats 1000000 in
theorem wsplitseq (s c : ByteArray) (w : World) :
    Calls Tryd.prog 46 #[.string s, .string c] w fun e W' => e = .returned (.func (.func 69) #[] #[.pointer (some ⟨w.heap.size + 1, 0, none⟩), .pointer (some ⟨w.heap.size, 0, none⟩), .pointer (some ⟨w.heap.size + 2, 0, none⟩)]) ∧
      W' = ((w.alloc (.cells #[.string s] 9)).alloc (.cells #[.string c] 9)).alloc (.cells #[.int .i64 0] 3) := by
  have hmf : ∀ (fn : Fn) (first cap : Array Value) (w : World), (Instr.makeFunc fn first cap).run Tryd.prog w = .ok (.func fn first cap) w := fun _ _ _ _ => rfl
  have h1 : Calls Tryd.prog 58 #[.string s, .string c, .int .i64 0] w fun e W' => e = .returned (.func (.func 69) #[] #[.pointer (some ⟨w.heap.size + 1, 0, none⟩), .pointer (some ⟨w.heap.size, 0, none⟩), .pointer (some ⟨w.heap.size + 2, 0, none⟩)]) ∧
      W' = ((w.alloc (.cells #[.string s] 9)).alloc (.cells #[.string c] 9)).alloc (.cells #[.int .i64 0] 3) := by
    go_enter Tryd.func58, Tryd.ntmps58
    go_wp2_with (fail)
    go_ret
    exact ⟨by simp, rfl⟩
  have H1 := Lib.hid h1
  clear h1
  go_enter Tryd.func46, Tryd.ntmps46
  go_wp2_with (fail)
  refine H1.out.mono ?_
  rintro e W1 ⟨rfl, rfl⟩
  go_wp2_with (fail)
  go_ret
  exact ⟨rfl, rfl⟩

set_option maxHeartbeats 1000000 in
theorem wlines (s : ByteArray) (w : World) :
    Calls Tryd.prog 32 #[.string s] w fun e W' => e = .returned (.func (.func 45) #[] #[.pointer (some ⟨w.heap.size, 0, none⟩)]) ∧ W' = w.alloc (.cells #[.string s] 9) := by
  have hmf : ∀ (fn : Fn) (first cap : Array Value) (w : World), (Instr.makeFunc fn first cap).run Tryd.prog w = .ok (.func fn first cap) w := fun _ _ _ _ => rfl
  go_enter Tryd.func32, Tryd.ntmps32
  go_wp2_with (fail)
  go_ret
  exact ⟨rfl, rfl⟩

/-- Where the lines begin. -/
def offs : Nat → List (List UInt8) → Nat
  | o, [] => o
  | o, p :: ps => offs (o + p.length + 1) ps
def mkO : Nat → List (List UInt8) → List (Nat × List UInt8)
  | _, [] => []
  | o, p :: ps => (o, p) :: mkO (o + p.length + 1) ps
theorem offs_snoc (xs : List (List UInt8)) (x : List UInt8) : ∀ o, offs o (xs ++ [x]) = offs o xs + x.length + 1 := by
  induction xs with
  | nil => intro o; rfl
  | cons p ps ih => intro o; exact ih _
theorem mkO_snoc (xs : List (List UInt8)) (x : List UInt8) : ∀ o, mkO o (xs ++ [x]) = mkO o xs ++ [(offs o xs, x)] := by
  induction xs with
  | nil => intro o; rfl
  | cons p ps ih => intro o; show (o, p) :: mkO _ (ps ++ [x]) = _; rw [ih]; rfl
theorem mkO_map (xs : List (List UInt8)) : ∀ o, (mkO o xs).map (·.2) = xs := by
  induction xs with
  | nil => intro o; rfl
  | cons p ps ih => intro o; show p :: (mkO _ ps).map _ = _; rw [ih]
theorem offs_le {xs r : List (List UInt8)} {l : List UInt8} (h : xs ++ r = splitL 10 l) : offs 0 xs ≤ l.length + 1 := by
  have key : ∀ (l : List UInt8) (o : Nat), offs o (splitL 10 l) = o + l.length + 1 := by
    intro l
    induction l with
    | nil => intro o; rfl
    | cons a t ih =>
      intro o
      by_cases e : a = 10
      · subst e; rw [splitL_at]; show offs (o + 0 + 1) _ = _; rw [ih]; simp; omega
      · cases hs : splitL 10 t with
        | nil => exact absurd hs (splitL_ne 10 t)
        | cons p ps =>
          rw [splitL_past t e hs]
          have := ih (o + 1)
          rw [hs] at this
          show offs (o + (p.length + 1) + 1) ps = _
          have e2 : offs (o + 1) (p :: ps) = offs (o + 1 + p.length + 1) ps := rfl
          rw [e2] at this
          rw [show o + (p.length + 1) + 1 = o + 1 + p.length + 1 by omega, this]
          simp; omega
  have mono : ∀ (r : List (List UInt8)) (o : Nat), o ≤ offs o r := by
    intro r
    induction r with
    | nil => intro o; exact Nat.le_refl _
    | cons p ps ih => intro o; have := ih (o + p.length + 1); show o ≤ offs (o + p.length + 1) ps; omega
  have app : ∀ (xs r : List (List UInt8)) (o : Nat), offs o (xs ++ r) = offs (offs o xs) r := by
    intro xs
    induction xs with
    | nil => intro r o; rfl
    | cons p ps ih => intro r o; exact ih r _
  have h1 := app xs r 0
  rw [h, key l 0] at h1
  have := mono r (offs 0 xs)
  omega

def encs2 (x : Nat × List UInt8) : Array Value := #[.int .i64 (x.1 : Int), .string (mkB x.2)]
def LnJ (N0 bq : Nat) (l : List UInt8) (K : List (Nat × List UInt8) → World → Prop) (ys : List (Nat × List UInt8)) (W : World) : Prop := K ys W ∧ Blk W bq 9 #[.string (mkB l)] ∧ N0 ≤ W.heap.size
/-- At a line. -/
def LnP (l : List UInt8) (ys : List (Nat × List UInt8)) (x : Nat × List UInt8) : Prop := ∃ xs r, ys = mkO 0 xs ∧ x.1 = offs 0 xs ∧ xs ++ x.2 :: r = splitL 10 l
def LnY (N0 bq : Nat) (l : List UInt8) (K : List (Nat × List UInt8) → World → Prop) (ys : List (Nat × List UInt8)) (x : Nat × List UInt8) (W : World) : Prop := LnJ N0 bq l K ys W ∧ LnP l ys x
def LnZ (l : List UInt8) (K : List (Nat × List UInt8) → World → Prop) (ys : List (Nat × List UInt8)) (W : World) : Prop := K ys W ∧ ys = mkO 0 (splitL 10 l)
/-- What a round keeps: the iterators' boxes. -/
def KpL (W W' : World) : Prop := ∀ k t cs, Blk W k t cs → t = 9 ∨ t = 3 ∨ t = 83 → Blk W' k t cs
theorem kpL_put : ∀ W W3 l r r' r2 r2', W.heap[l]? = some (.loop r) → W3.heap[l]? = some (.loop r2) → KpL (W.putObj l (.loop r')) W3 → KpL W (W3.putObj l (.loop r2')) := by
  intro W W3 l r r' r2 r2' h1 h2 h k t cs hb ht
  have hne : k ≠ l := by rintro rfl; unfold Blk at hb; rw [h1] at hb; cases hb
  exact (World.putObj_heap_other hne).trans (h k t cs ((World.putObj_heap_other hne).trans hb) ht)
/-- What the inner loop's consumer knows. -/
def KinL (N0 bq bt ba lp : Nat) (l : List UInt8) (K : List (Nat × List UInt8) → World → Prop) (R : World → Prop) (xs : List (List UInt8)) (W : World) : Prop :=
  LnJ N0 bq l K (mkO 0 xs) W ∧ R W ∧ Blk W bt 83 #[.func (.yield lp) #[] #[]] ∧ Blk W ba 3 #[.int .i64 (offs 0 xs : Int)] ∧ (∃ r, xs ++ r = splitL 10 l)

theorem kinL_stays {N0 bq bt ba lp B0 M : Nat} {l : List UInt8} {K : List (Nat × List UInt8) → World → Prop} {R : World → Prop} (hK : Stays B0 K) (hB : B0 ≤ bt + 2) (hN : N0 ≤ bt + 2) (hM : M + 2 = N0) (hq : bq < bt + 2) (ha : ba = bt + 1)
    (hR : ∀ W W', R W → W'.heap[M]? = W.heap[M]? → W'.heap[M + 1]? = W.heap[M + 1]? → R W') : Stays (bt + 2) (KinL N0 bq bt ba lp l K R) where
  set_ := by
    rintro xs W b t v u ⟨⟨h1, h2, h3⟩, h4, h5, h6, h7⟩ hb ht hle
    refine ⟨⟨hK.set_ _ _ _ _ _ _ h1 hb ht (by omega), h2.far (by show bq ≠ b; omega) _, by simpa using h3⟩, hR _ _ h4 (Below.heap_setCell _ _ _ _ (by show M ≠ b; omega)) (Below.heap_setCell _ _ _ _ (by show M + 1 ≠ b; omega)), h5.far (by show bt ≠ b; omega) _, h6.far (by show ba ≠ b; omega) _, h7⟩
  alloc := by
    rintro xs W o ⟨⟨h1, h2, h3⟩, h4, h5, h6, h7⟩
    exact ⟨⟨hK.alloc _ _ _ h1, h2.alloc _, by simp; omega⟩, hR _ _ h4 (Below.heap_alloc _ _ _ (by omega)) (Below.heap_alloc _ _ _ (by omega)), h5.alloc _, h6.alloc _, h7⟩
  put := by
    rintro xs W k o o' ⟨⟨h1, h2, h3⟩, h4, h5, h6, h7⟩ hk ho hc
    exact ⟨⟨hK.put _ _ _ _ _ h1 (by omega) ho hc, (World.putObj_heap_other (by omega)).trans h2, by simpa [World.putObj] using h3⟩, hR _ _ h4 (World.putObj_heap_other (by omega)) (World.putObj_heap_other (by omega)), (World.putObj_heap_other (by omega)).trans h5, (World.putObj_heap_other (by omega)).trans h6, h7⟩
  drewN := by
    rintro xs W n ⟨⟨h1, h2, h3⟩, h4, h5, h6, h7⟩
    exact ⟨⟨hK.drewN _ _ _ h1, h2, h3⟩, hR _ _ h4 rfl rfl, h5, h6, h7⟩

set_option maxRecDepth 100000 in
set_option maxHeartbeats 4000000 in
theorem lines_iter (n1 : Nat) (hn1 : 3 ≤ n1) (l : List UInt8) (hl : l.length ≤ 1000000000) (B0 M : Nat) (K : List (Nat × List UInt8) → World → Prop) (hK : Stays B0 K) (lp bq : Nat) (hBM : B0 ≤ M) (hq : bq < M)
    (R Rx : World → Prop) (hR : ∀ W W', R W → W'.heap[M]? = W.heap[M]? → W'.heap[M + 1]? = W.heap[M + 1]? → R W') (hRx : ∀ W W', Rx W → W'.heap[M]? = W.heap[M]? → W'.heap[M + 1]? = W.heap[M + 1]? → Rx W')
    (KX : List (Nat × List UInt8) → World → Prop) (hKX : ∀ ys W k o o', KX ys W → B0 ≤ k → W.heap[k]? = some o → o.isCells = false → KX ys (W.putObj k o'))
    (hY : ∀ pre x W, LnY (M + 2) bq l K pre x W → R W → YieldAt Fence.wide (n1 - 1) Tryd.prog lp (encs2 x) W fun e W' => (e = .returned (.bool true) ∧ LnJ (M + 2) bq l K (pre ++ [x]) W' ∧ R W' ∧ KeepsFrom (M + 2) W W' ∧ KpL W W') ∨ (e = .returned (.bool false) ∧ KX (pre ++ [x]) W' ∧ Rx W' ∧ KeepsFrom (M + 2) W W' ∧ KpL W W'))
    (W : World) (h0 : LnJ (M + 2) bq l K [] W) (hRW : R W) :
    CallsIn Fence.wide n1 Tryd.prog 45 (#[.func (.yield lp) #[] #[]] ++ #[.pointer (some ⟨bq, 0, none⟩)]) W fun e W' => (∃ v, e = .returned v) ∧ ((R W' ∧ ∃ xs, LnZ l K xs W') ∨ (Rx W' ∧ ∃ xs, KX xs W')) := by
  have hz := h0.2.2
  have q1 := ((h0.2.1.alloc (.cells #[.func (.yield lp) #[] #[]] 83)).alloc (.cells #[.int .i64 0] 3)).cell' (i := 0) rfl
  have bt0 := (Blk.new W 83 #[.func (.yield lp) #[] #[]]).alloc (.cells #[.int .i64 0] 3)
  have ba0 : Blk ((W.alloc (.cells #[.func (.yield lp) #[] #[]] 83)).alloc (.cells #[.int .i64 0] 3)) (W.heap.size + 1) 3 #[.int .i64 0] := blk_at (by simp)
  have S0 := kinL_stays (M := M) (N0 := M + 2) (bt := W.heap.size) (ba := W.heap.size + 1) (bq := bq) (lp := lp) (l := l) hK (by omega) (by omega) rfl (by omega) rfl hR
  have h1n : 1 ≤ n1 := by omega
  have H0 := Lib.hid (And.intro h0 (And.intro hRW (And.intro bt0 (And.intro ba0 (And.intro hR (And.intro hY (And.intro S0 (And.intro hK (And.intro hRx hKX)))))))))
  clear h0 hRW bt0 ba0 hR hY hK S0 hRx hKX
  refine callsIn_of_wp_marks Tryd.func45 rfl trivial ?_ rfl
  simp only [Tryd.ntmps45, List.size_toArray, List.length_cons, List.length_nil, Nat.reduceAdd, Nat.reduceSub, Array.replicate_succ, Array.replicate_zero, List.push_toArray, List.append_toArray, List.nil_append, List.cons_append]
  gi_wp2_with (fail)
  refine ⟨by first | trivial | exact fun _ => by omega, (callsIn_wide.2 (wsplitseq (mkB l) ⟨#[10]⟩ _)).mono ?_⟩
  rintro e w' ⟨rfl, hw'⟩
  obtain ⟨w1, hw1⟩ : ∃ w1, w1 = w' := ⟨_, rfl⟩
  have hszA : ((W.alloc (.cells #[.func (.yield lp) #[] #[]] 83)).alloc (.cells #[.int .i64 0] 3)).heap.size = W.heap.size + 2 := by simp
  rw [hszA]
  have hsz : w1.heap.size = W.heap.size + 5 := by rw [hw1, hw']; simp
  have k1 : KinL (M + 2) bq W.heap.size (W.heap.size + 1) lp l K R [] w1 := by
    rw [hw1, hw']
    refine H0.out.2.2.2.2.2.2.1.alloc _ _ _ (H0.out.2.2.2.2.2.2.1.alloc _ _ _ (H0.out.2.2.2.2.2.2.1.alloc _ _ _ ⟨⟨H0.out.2.2.2.2.2.2.2.1.alloc _ _ _ (H0.out.2.2.2.2.2.2.2.1.alloc _ _ _ H0.out.1.1), (H0.out.1.2.1.alloc _).alloc _, by simp; omega⟩, ?_, H0.out.2.2.1, H0.out.2.2.2.1, ⟨_, rfl⟩⟩))
    refine H0.out.2.2.2.2.1 _ _ H0.out.2.1 ?_ ?_
    · exact (Below.heap_alloc _ _ _ (by simp; omega)).trans (Below.heap_alloc _ _ _ (by omega))
    · exact (Below.heap_alloc _ _ _ (by simp; omega)).trans (Below.heap_alloc _ _ _ (by omega))
  have x1 : SpBox (W.heap.size + 2 + 1) (W.heap.size + 2) (W.heap.size + 2 + 2) 10 l w1 := by
    rw [hw1, hw']
    exact ⟨(blk_at (by simp)).alloc _, ((blk_at (by simp)).alloc _).alloc _, blk_at (by simp)⟩
  rw [← hw1]
  have K1 := Lib.hid (And.intro k1 x1)
  clear hw' hw1 k1 x1 hszA
  gi_wp2_with (fail)
  refine wpIn_range_stops rfl (by omega) (gf := 69) (lb := #[.pointer (some ⟨W.heap.size + 2 + 1, 0, none⟩), .pointer (some ⟨W.heap.size + 2, 0, none⟩), .pointer (some ⟨W.heap.size + 2 + 2, 0, none⟩)]) rfl trivial (enters_of Tryd.func69 (by kernel_rfl) rfl) (encs := encS1) (fun _ => rfl)
    (fun _ _ => True) (fun _ _ _ _ _ _ _ _ _ _ => trivial)
    (SpJ (W.heap.size + 2 + 1) (W.heap.size + 2) (W.heap.size + 2 + 2) 10 l (KinL (M + 2) bq W.heap.size (W.heap.size + 1) lp l K R)) (SpZ 10 l (KinL (M + 2) bq W.heap.size (W.heap.size + 1) lp l K R))
    (fun xs X => KX (mkO 0 xs) X ∧ Rx X) (fun xs X => KX (mkO 0 xs) X ∧ Rx X)
    (SpY (W.heap.size + 2 + 1) (W.heap.size + 2) (W.heap.size + 2 + 2) 10 l (KinL (M + 2) bq W.heap.size (W.heap.size + 1) lp l K R)) ?hJ ?hX ?hY ?hZ ?hZX ?hstart
    (fun x => { tmps := #[.func (.yield lp) #[] #[], .pointer (some ⟨bq, 0, none⟩), .pointer (some ⟨W.heap.size, 0, none⟩), .pointer (some ⟨W.heap.size + 1, 0, none⟩), .string (mkB x), .string (mkB l), .func (.func 69) #[] #[.pointer (some ⟨W.heap.size + 2 + 1, 0, none⟩), .pointer (some ⟨W.heap.size + 2, 0, none⟩), .pointer (some ⟨W.heap.size + 2 + 2, 0, none⟩)], .string (mkB x), undef, undef, undef, undef, undef, undef, undef, undef, undef, undef], defers := [] }) ?hit ?assign ?body ?done ?stop
  case hJ =>
    rintro xs X k r r' ⟨h1, h2⟩ hl hr
    exact ⟨H0.out.2.2.2.2.2.2.1.put _ _ _ _ _ h1 (by omega) hr rfl, h2.put _ _ (by omega) (by omega) (by omega)⟩
  case hX =>
    rintro xs X k r r' ⟨h1, h2⟩ hl hr
    exact ⟨H0.out.2.2.2.2.2.2.2.2.2 _ _ _ _ _ h1 (by omega) hr rfl, H0.out.2.2.2.2.2.2.2.2.1 _ _ h2 (World.putObj_heap_other (by omega)) (World.putObj_heap_other (by omega))⟩
  case hZX =>
    rintro xs X k r r' ⟨h1, h2⟩ hl hr
    exact ⟨H0.out.2.2.2.2.2.2.2.2.2 _ _ _ _ _ h1 (by omega) hr rfl, H0.out.2.2.2.2.2.2.2.2.1 _ _ h2 (World.putObj_heap_other (by omega)) (World.putObj_heap_other (by omega))⟩
  case hY =>
    rintro xs x X k r r' ⟨h1, h2, h3⟩ hl hr
    exact ⟨H0.out.2.2.2.2.2.2.1.put _ _ _ _ _ h1 (by omega) hr rfl, h2.put _ _ (by omega) (by omega) (by omega), h3⟩
  case hZ =>
    rintro xs X k r r' ⟨h1, h2⟩ hl hr
    exact ⟨H0.out.2.2.2.2.2.2.1.put _ _ _ _ _ h1 (by omega) hr rfl, h2⟩
  case hstart =>
    intro o o'
    exact ⟨H0.out.2.2.2.2.2.2.1.alloc _ _ _ (H0.out.2.2.2.2.2.2.1.alloc _ _ _ K1.out.1), (K1.out.2.alloc _).alloc _⟩
  case hit =>
    intro li Ri Rxi hRi hRxi hYi X h0 hRX
    refine split_stops _ (by omega) 10 l hl _ _ H0.out.2.2.2.2.2.2.1 li _ _ _ (by omega) (by omega) (by omega) _ Ri Rxi (fun Y v hv => hRi _ _ hv (Below.heap_setCell _ _ _ _ (by show w1.heap.size ≠ W.heap.size + 2; omega)) (Below.heap_setCell _ _ _ _ (by show w1.heap.size + 1 ≠ W.heap.size + 2; omega))) ?_ X h0 hRX
    intro pre x Y hy hr
    refine (hYi pre x Y hy hr).mono fun e W' h => ?_
    rcases h with ⟨a1, a2, a3, _⟩ | ⟨a1, a2, a3, _⟩
    · exact .inl ⟨a1, a2, a3⟩
    · exact .inr ⟨a1, a2, a3⟩
  case assign =>
    intro l' x Y Kk hK
    unfold encS1
    gi_wp2
    exact hK
  case body =>
    rintro l' pre x Y ⟨⟨⟨h1, h2, h3⟩, h4, h5, h6, h7⟩, h8, h9, h10, h11⟩
    have t0 := h5.cell' (i := 0) rfl
    have t1 := h6.cell' (i := 0) rfl
    have hsp : pre ++ x :: (splitL 10 l).drop (pre.length + 1) = splitL 10 l := by
      have e1 := (split_take 10 l pre.length h11).1
      rw [← h9, ← h10] at e1
      have e2 := List.take_append_drop (pre.length + 1) (splitL 10 l)
      rw [e1] at e2
      rw [List.append_assoc] at e2
      exact e2
    have hof : offs 0 pre + x.length + 1 ≤ l.length + 1 := by
      have := offs_le (xs := pre ++ [x]) (r := (splitL 10 l).drop (pre.length + 1)) (l := l) (by rw [List.append_assoc]; exact hsp)
      rw [offs_snoc] at this
      exact this
    have hmk : (mkB x).size = x.length := mkB_size x
    obtain ⟨fn, tmps, assign, body, hy, hRd⟩ := yield_any rfl (n1 - 1 - 1 - 1) (H0.out.2.2.2.2.2.1 (mkO 0 pre) (offs 0 pre, x) Y ⟨⟨h1, h2, h3⟩, pre, _, rfl, rfl, hsp⟩ h4)
    simp only [encs2] at hy
    have HF := Lib.hid (And.intro h5 (And.intro h6 (And.intro h8 hsp)))
    have hsz0 : M + 2 ≤ W.heap.size := hz
    clear h1 h2 h3 h4 h5 h6 h7 h8 h9 h10 h11 hsp
    gi_wp2
    refine ⟨by first | trivial | exact fun _ => by omega, RoundIn.mono (F := Fence.wide.inRound l') hRd ?_⟩
    rintro e' W4 (⟨rfl, hj, hr', hk4, ho4⟩ | ⟨rfl, hj, hr', hk4, ho4⟩)
    · obtain ⟨h5, h6, h8, hsp⟩ := HF.out
      have g6 := ho4 _ _ _ h6 (.inr (.inl rfl))
      have u1 := g6.cell' (i := 0) rfl
      have uf := g6.frozen 0
      have ul := g6.lt
      have H4 := Lib.hid (And.intro hj (And.intro hr' (And.intro hk4 (And.intro ho4 g6))))
      clear hj hr' hk4 ho4 hy hRd h5 h6 h8 hsp g6
      gi_wp2
      obtain ⟨hj, hr', hk4, ho4, g6⟩ := H4.out
      obtain ⟨h5, h6, h8, hsp⟩ := HF.out
      have hoi : ((offs 0 (pre ++ [x]) : Nat) : Int) = (offs 0 pre : Int) + ((x.length : Int) + 1) := by rw [offs_snoc]; omega
      refine ⟨⟨by simpa using hk4.size, fun k o hk ho hc => ?_⟩, ⟨⟨⟨?_, ?_, ?_⟩, ?_, ?_, ?_, ⟨_, by rw [List.append_assoc]; exact hsp⟩⟩, ?_⟩⟩
      · rw [Below.heap_setCell _ _ _ _ (by
          rintro rfl
          have := hk4.same _ o (by show M + 2 ≤ W.heap.size + 1; omega) ho hc
          have h9 : W4.heap[W.heap.size + 1]? = some (.cells #[.int .i64 (offs 0 pre : Int)] 3 (0, 0)) := g6
          rw [h9] at this
          cases this
          cases hc)]
        exact hk4.same k o (by omega) ho hc
      · rw [mkO_snoc]
        exact H0.out.2.2.2.2.2.2.2.1.set_ _ _ _ _ _ _ hj.1 g6 (.inr rfl) (by omega)
      · exact hj.2.1.far (by show bq ≠ W.heap.size + 1; omega) _
      · simpa using hj.2.2
      · exact H0.out.2.2.2.2.1 _ _ hr' (Below.heap_setCell _ _ _ _ (by show M ≠ W.heap.size + 1; omega)) (Below.heap_setCell _ _ _ _ (by show M + 1 ≠ W.heap.size + 1; omega))
      · exact (ho4 _ _ _ h5 (.inr (.inr rfl))).far (by show W.heap.size ≠ W.heap.size + 1; omega) _
      · rw [hoi]
        exact g6.set_ 0 _
      · rw [List.length_append, List.length_singleton, Nat.add_sub_cancel]
        obtain ⟨s1, s2, s3⟩ := h8
        exact ⟨(ho4 _ _ _ s1 (.inl rfl)).far (by show W.heap.size + 2 + 1 ≠ W.heap.size + 1; omega) _, (ho4 _ _ _ s2 (.inl rfl)).far (by show W.heap.size + 2 ≠ W.heap.size + 1; omega) _, (ho4 _ _ _ s3 (.inr (.inl rfl))).far (by show W.heap.size + 2 + 2 ≠ W.heap.size + 1; omega) _⟩
    · have H4 := Lib.hid (And.intro hj (And.intro hr' hk4))
      clear hj hr' hk4 ho4 hy hRd
      gi_wp2
      obtain ⟨hj, hr', hk4⟩ := H4.out
      refine ⟨⟨hk4.size, fun k o hk ho hc => hk4.same k o (by omega) ho hc⟩, ?_, hr'⟩
      rw [mkO_snoc]
      exact hj
  case done =>
    rintro D xs Y hD ⟨⟨⟨h1, h2, h3⟩, h4, h5, h6⟩, rfl⟩ hKD
    have HZ := Lib.hid (And.intro h1 h4)
    clear h1 h2 h3 h4 h5 h6
    gi_wp2
    refine ⟨by simp, .inl ⟨_, _, rfl, run_takeDeferred hKD, ?_⟩⟩
    refine ⟨_, results_none rfl _ _ _, ⟨_, rfl⟩, .inl ⟨?_, _, H0.out.2.2.2.2.2.2.2.1.put _ _ _ _ _ HZ.out.1 (by omega) hKD rfl, rfl⟩⟩
    exact H0.out.2.2.2.2.1 _ _ HZ.out.2 (World.putObj_heap_other (by omega)) (World.putObj_heap_other (by omega))
  case stop =>
    rintro D xs Y hD ⟨h1, h2⟩ hKD
    have HZ := Lib.hid (And.intro h1 h2)
    clear h1 h2
    gi_wp2
    refine ⟨by simp, .inl ⟨_, _, rfl, run_takeDeferred hKD, ?_⟩⟩
    refine ⟨_, results_none rfl _ _ _, ⟨_, rfl⟩, .inr ⟨?_, _, H0.out.2.2.2.2.2.2.2.2.2 _ _ _ _ _ HZ.out.1 (by omega) hKD rfl⟩⟩
    exact H0.out.2.2.2.2.2.2.2.2.1 _ _ HZ.out.2 (World.putObj_heap_other (by omega)) (World.putObj_heap_other (by omega))
end Go.Proofs.YtpicenopiigfpaaDoor
