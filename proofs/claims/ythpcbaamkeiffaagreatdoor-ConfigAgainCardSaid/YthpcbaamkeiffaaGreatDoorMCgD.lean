/-
  slices.Clone at the lists of a configuration, walked: a copy of the call's own; conditions: sizes.
  How own's memory grows: plain; no condition.
-/
import Derived.Lib.SliceRun
import Derived.Test.YthpcbaamkeiffaaGreatDoorMCgB
namespace Go.Proofs.YthpcbaamkeiffaaGreatDoor
open Go.RowKit Go.Shelf Go.Joins
set_option linter.unusedVariables false
set_option linter.unusedSimpArgs false

/-- A copy: of the call's own, with the values of the elements as they were. -/
def CloneP {α : Type} (T : TypeId) (m : Nat) (cell : α → Value → List Value) (inner : World → α → Value → Prop) (w : World) (xs : List α) (e : Ending) (W : World) : Prop :=
  ∃ v us, e = .returned v ∧ OwnU T m cell W w.heap.size v xs us ∧ Each (inner w) xs us ∧ Below w.heap.size w W
theorem cond_one (x : Cd) (u : Value) : ∀ q ∈ cdC x u, q.oneCell' = true := by
  intro q hq
  simp [cdC] at hq
  rcases hq with rfl | rfl | rfl | rfl | rfl <;> rfl
theorem rule_one (x : Ru) (A : Option Addr) (n c : Nat) : ∀ q ∈ ruC x (.slice A n c), q.oneCell' = true := by
  intro q hq
  simp [ruC] at hq
  rcases hq with rfl | rfl | rfl | rfl | rfl | rfl | rfl | rfl | rfl | rfl | rfl | rfl | rfl | rfl <;> rfl
theorem dir_one (x : Dr) (A : Option Addr) (n c : Nat) : ∀ q ∈ drC x (.slice A n c), q.oneCell' = true := by
  intro q hq
  simp [drC] at hq
  rcases hq with rfl | rfl | rfl <;> rfl
theorem route_one (x : Ro) (A : Option Addr) (n c : Nat) : ∀ q ∈ roC x (.slice A n c), q.oneCell' = true := by
  intro q hq
  simp [roC] at hq
  rcases hq with rfl | rfl | rfl <;> rfl
theorem atL_one {α : Type} {cell : α → Value → List Value} {xs : List α} {us : List Value} (h : Each (fun x u => ∀ q ∈ cell x u, q.oneCell' = true) xs us) : ∀ i j, (atL cell xs us i j).oneCell' = true := by
  intro i j
  unfold atL
  cases hx : xs[i]? with
  | none => rfl
  | some x =>
    cases hu : us[i]? with
    | none => rfl
    | some u =>
      show (((cell x u)[j]?).getD _).oneCell' = true
      cases hc : (cell x u)[j]? with
      | none => rfl
      | some q => exact h i x u hx hu q (List.mem_of_getElem? hc)
set_option maxRecDepth 100000 in
set_option maxHeartbeats 4000000 in
theorem clone_conds (xs : List Cd) (hl : xs.length ≤ 1000000) (v : Value) (w : World) (inner : World → Cd → Value → Prop) (ho : ∀ x u, inner w x u → ∀ q ∈ cdC x u, q.oneCell' = true) (hv : InL 5 cdC inner w v xs) :
    Calls Tryz.prog 82 #[v] w (CloneP 68 5 cdC inner w xs) := by
  obtain ⟨i1, hi1, hz10, hz11, hz12⟩ := info_parts infoCond
  obtain ⟨A, c, us, rfl, hA, hus, hc, hi⟩ := hv
  have hq : ∀ (w : World) (a : Option Addr) (n c n' c' : Nat), (binOp .eql 62 (.slice a n c) (.slice none n' c')).run Tryz.prog w = .ok (.bool a.isNone) w := fun w a n c n' c' => Lib.run_eql_slice_nil w _ _ a n c n' c' Tryz.underlying62
  have h1 : ∀ i j, (atL cdC xs us i j).oneCell' = true := atL_one (hi.imp fun x u _ h => ho x u h)
  cases A with
  | none =>
    have h0 := hA rfl
    have he : xs = [] := List.length_eq_zero_iff.1 h0.1
    subst he
    have H := Lib.hid h0
    clear hA hc hi h0 hus h1 ho
    go_enter Tryz.func82, Tryz.ntmps82
    go_wp2_with (fail)
    go_ret
    exact ⟨_, [], rfl, OwnU.nil _ _ _, Each.nil _ _, Below.refl _ _⟩
  | some a =>
    obtain ⟨n, hn⟩ : ∃ n, n = xs.length := ⟨_, rfl⟩
    rw [← hn] at hl hA hc ⊢
    have HA := Lib.hid (And.intro hA (And.intro hc (And.intro hus (And.intro hi (And.intro hn h1)))))
    clear hA hc hi hus hn h1 ho
    go_enter Tryz.func82, Tryz.ntmps82
    go_wp2_with (at_builtin; refine append_any rfl _ _ 62 rfl w.heap.size 68 i1 _ 5 48 Tryz.underlying62 hi1 hz10 hz11 hz12 rfl (by decide) _ rfl (own_empty w w.heap.size 68 5 (Nat.le_refl _)) (some a) n c (atL cdC xs us) rfl HA.out.1 ?c1 HA.out.2.2.2.2.2 ?c3 ?c4 (by simp) ?_)
    case c1 => exact HA.out.2.1.below ((Below.refl w.heap.size w).alloc (Nat.le_refl _) _)
    case c3 => unfold maxLen; omega
    case c4 => omega
    intro v1 W1 hown1 hgrow1
    have b1 : Below w.heap.size w W1 := (gr_alloc (Below.refl w.heap.size w) _).grown hgrow1 (by simp) (by intro k hk; simp [Value.ownBlock] at hk; omega)
    have K := Lib.hid (And.intro b1 hown1)
    clear b1 hown1 hgrow1
    go_wp2_with (fail)
    go_ret
    refine ⟨_, us, rfl, ⟨HA.out.2.2.1, ?_⟩, HA.out.2.2.2.1, K.out.1⟩
    rw [allL_flat cdC_len (by decide) xs us HA.out.2.2.1, ← HA.out.2.2.2.2.1]
    exact K.out.2
set_option maxRecDepth 100000 in
set_option maxHeartbeats 4000000 in
theorem clone_rules (xs : List Ru) (hl : xs.length ≤ 1000000) (v : Value) (w : World) (inner : World → Ru → Value → Prop) (ho : ∀ x u, inner w x u → ∀ q ∈ ruC x u, q.oneCell' = true) (hv : InL 14 ruC inner w v xs) :
    Calls Tryz.prog 81 #[v] w (CloneP 66 14 ruC inner w xs) := by
  obtain ⟨i1, hi1, hz10, hz11, hz12⟩ := info_parts infoRule
  obtain ⟨A, c, us, rfl, hA, hus, hc, hi⟩ := hv
  have hq : ∀ (w : World) (a : Option Addr) (n c n' c' : Nat), (binOp .eql 46 (.slice a n c) (.slice none n' c')).run Tryz.prog w = .ok (.bool a.isNone) w := fun w a n c n' c' => Lib.run_eql_slice_nil w _ _ a n c n' c' Tryz.underlying46
  have h1 : ∀ i j, (atL ruC xs us i j).oneCell' = true := atL_one (hi.imp fun x u _ h => ho x u h)
  cases A with
  | none =>
    have h0 := hA rfl
    have he : xs = [] := List.length_eq_zero_iff.1 h0.1
    subst he
    have H := Lib.hid h0
    clear hA hc hi h0 hus h1 ho
    go_enter Tryz.func81, Tryz.ntmps81
    go_wp2_with (fail)
    go_ret
    exact ⟨_, [], rfl, OwnU.nil _ _ _, Each.nil _ _, Below.refl _ _⟩
  | some a =>
    obtain ⟨n, hn⟩ : ∃ n, n = xs.length := ⟨_, rfl⟩
    rw [← hn] at hl hA hc ⊢
    have HA := Lib.hid (And.intro hA (And.intro hc (And.intro hus (And.intro hi (And.intro hn h1)))))
    clear hA hc hi hus hn h1 ho
    go_enter Tryz.func81, Tryz.ntmps81
    go_wp2_with (at_builtin; refine append_any rfl _ _ 46 rfl w.heap.size 66 i1 _ 14 88 Tryz.underlying46 hi1 hz10 hz11 hz12 rfl (by decide) _ rfl (own_empty w w.heap.size 66 14 (Nat.le_refl _)) (some a) n c (atL ruC xs us) rfl HA.out.1 ?c1 HA.out.2.2.2.2.2 ?c3 ?c4 (by simp) ?_)
    case c1 => exact HA.out.2.1.below ((Below.refl w.heap.size w).alloc (Nat.le_refl _) _)
    case c3 => unfold maxLen; omega
    case c4 => omega
    intro v1 W1 hown1 hgrow1
    have b1 : Below w.heap.size w W1 := (gr_alloc (Below.refl w.heap.size w) _).grown hgrow1 (by simp) (by intro k hk; simp [Value.ownBlock] at hk; omega)
    have K := Lib.hid (And.intro b1 hown1)
    clear b1 hown1 hgrow1
    go_wp2_with (fail)
    go_ret
    refine ⟨_, us, rfl, ⟨HA.out.2.2.1, ?_⟩, HA.out.2.2.2.1, K.out.1⟩
    rw [allL_flat ruC_len (by decide) xs us HA.out.2.2.1, ← HA.out.2.2.2.2.1]
    exact K.out.2
set_option maxRecDepth 100000 in
set_option maxHeartbeats 4000000 in
theorem clone_dirs (xs : List Dr) (hl : xs.length ≤ 1000000) (v : Value) (w : World) (inner : World → Dr → Value → Prop) (ho : ∀ x u, inner w x u → ∀ q ∈ drC x u, q.oneCell' = true) (hv : InL 3 drC inner w v xs) :
    Calls Tryz.prog 79 #[v] w (CloneP 48 3 drC inner w xs) := by
  obtain ⟨i1, hi1, hz10, hz11, hz12⟩ := info_parts infoDir
  obtain ⟨A, c, us, rfl, hA, hus, hc, hi⟩ := hv
  have hq : ∀ (w : World) (a : Option Addr) (n c n' c' : Nat), (binOp .eql 24 (.slice a n c) (.slice none n' c')).run Tryz.prog w = .ok (.bool a.isNone) w := fun w a n c n' c' => Lib.run_eql_slice_nil w _ _ a n c n' c' Tryz.underlying24
  have h1 : ∀ i j, (atL drC xs us i j).oneCell' = true := atL_one (hi.imp fun x u _ h => ho x u h)
  cases A with
  | none =>
    have h0 := hA rfl
    have he : xs = [] := List.length_eq_zero_iff.1 h0.1
    subst he
    have H := Lib.hid h0
    clear hA hc hi h0 hus h1 ho
    go_enter Tryz.func79, Tryz.ntmps79
    go_wp2_with (fail)
    go_ret
    exact ⟨_, [], rfl, OwnU.nil _ _ _, Each.nil _ _, Below.refl _ _⟩
  | some a =>
    obtain ⟨n, hn⟩ : ∃ n, n = xs.length := ⟨_, rfl⟩
    rw [← hn] at hl hA hc ⊢
    have HA := Lib.hid (And.intro hA (And.intro hc (And.intro hus (And.intro hi (And.intro hn h1)))))
    clear hA hc hi hus hn h1 ho
    go_enter Tryz.func79, Tryz.ntmps79
    go_wp2_with (at_builtin; refine append_any rfl _ _ 24 rfl w.heap.size 48 i1 _ 3 48 Tryz.underlying24 hi1 hz10 hz11 hz12 rfl (by decide) _ rfl (own_empty w w.heap.size 48 3 (Nat.le_refl _)) (some a) n c (atL drC xs us) rfl HA.out.1 ?c1 HA.out.2.2.2.2.2 ?c3 ?c4 (by simp) ?_)
    case c1 => exact HA.out.2.1.below ((Below.refl w.heap.size w).alloc (Nat.le_refl _) _)
    case c3 => unfold maxLen; omega
    case c4 => omega
    intro v1 W1 hown1 hgrow1
    have b1 : Below w.heap.size w W1 := (gr_alloc (Below.refl w.heap.size w) _).grown hgrow1 (by simp) (by intro k hk; simp [Value.ownBlock] at hk; omega)
    have K := Lib.hid (And.intro b1 hown1)
    clear b1 hown1 hgrow1
    go_wp2_with (fail)
    go_ret
    refine ⟨_, us, rfl, ⟨HA.out.2.2.1, ?_⟩, HA.out.2.2.2.1, K.out.1⟩
    rw [allL_flat drC_len (by decide) xs us HA.out.2.2.1, ← HA.out.2.2.2.2.1]
    exact K.out.2
set_option maxRecDepth 100000 in
set_option maxHeartbeats 4000000 in
theorem clone_routes (xs : List Ro) (hl : xs.length ≤ 1000000) (v : Value) (w : World) (inner : World → Ro → Value → Prop) (ho : ∀ x u, inner w x u → ∀ q ∈ roC x u, q.oneCell' = true) (hv : InL 3 roC inner w v xs) :
    Calls Tryz.prog 80 #[v] w (CloneP 70 3 roC inner w xs) := by
  obtain ⟨i1, hi1, hz10, hz11, hz12⟩ := info_parts infoRoute
  obtain ⟨A, c, us, rfl, hA, hus, hc, hi⟩ := hv
  have hq : ∀ (w : World) (a : Option Addr) (n c n' c' : Nat), (binOp .eql 25 (.slice a n c) (.slice none n' c')).run Tryz.prog w = .ok (.bool a.isNone) w := fun w a n c n' c' => Lib.run_eql_slice_nil w _ _ a n c n' c' Tryz.underlying25
  have h1 : ∀ i j, (atL roC xs us i j).oneCell' = true := atL_one (hi.imp fun x u _ h => ho x u h)
  cases A with
  | none =>
    have h0 := hA rfl
    have he : xs = [] := List.length_eq_zero_iff.1 h0.1
    subst he
    have H := Lib.hid h0
    clear hA hc hi h0 hus h1 ho
    go_enter Tryz.func80, Tryz.ntmps80
    go_wp2_with (fail)
    go_ret
    exact ⟨_, [], rfl, OwnU.nil _ _ _, Each.nil _ _, Below.refl _ _⟩
  | some a =>
    obtain ⟨n, hn⟩ : ∃ n, n = xs.length := ⟨_, rfl⟩
    rw [← hn] at hl hA hc ⊢
    have HA := Lib.hid (And.intro hA (And.intro hc (And.intro hus (And.intro hi (And.intro hn h1)))))
    clear hA hc hi hus hn h1 ho
    go_enter Tryz.func80, Tryz.ntmps80
    go_wp2_with (at_builtin; refine append_any rfl _ _ 25 rfl w.heap.size 70 i1 _ 3 48 Tryz.underlying25 hi1 hz10 hz11 hz12 rfl (by decide) _ rfl (own_empty w w.heap.size 70 3 (Nat.le_refl _)) (some a) n c (atL roC xs us) rfl HA.out.1 ?c1 HA.out.2.2.2.2.2 ?c3 ?c4 (by simp) ?_)
    case c1 => exact HA.out.2.1.below ((Below.refl w.heap.size w).alloc (Nat.le_refl _) _)
    case c3 => unfold maxLen; omega
    case c4 => omega
    intro v1 W1 hown1 hgrow1
    have b1 : Below w.heap.size w W1 := (gr_alloc (Below.refl w.heap.size w) _).grown hgrow1 (by simp) (by intro k hk; simp [Value.ownBlock] at hk; omega)
    have K := Lib.hid (And.intro b1 hown1)
    clear b1 hown1 hgrow1
    go_wp2_with (fail)
    go_ret
    refine ⟨_, us, rfl, ⟨HA.out.2.2.1, ?_⟩, HA.out.2.2.2.1, K.out.1⟩
    rw [allL_flat roC_len (by decide) xs us HA.out.2.2.1, ← HA.out.2.2.2.2.1]
    exact K.out.2
theorem clone_texts (l : List ByteArray) (hl : l.length ≤ 1000000) (v : Value) (w : World) (hv : TextsIn w v l) :
    Calls Tryz.prog 83 #[v] w fun e W => ∃ v', e = .returned v' ∧ SegMem W w.heap.size v' l ∧ Below w.heap.size w W := by
  obtain ⟨A, c, rfl, hA, hc⟩ := hv
  cases A with
  | none =>
    have h0 := hA rfl
    have he : l = [] := List.length_eq_zero_iff.1 h0.1
    subst he
    refine (Tryz.slices_Clone_string_nil 0 c w).mono ?_
    rintro e W ⟨rfl, rfl⟩
    exact ⟨_, rfl, World.ownsRow_nil _ _ _ _, Below.refl _ _⟩
  | some a =>
    by_cases h0 : l.length = 0
    · have he : l = [] := List.length_eq_zero_iff.1 h0
      subst he
      refine (Tryz.slices_Clone_string_zero a c w).mono ?_
      rintro e W ⟨v', rfl, h1, _, h2⟩
      exact ⟨_, rfl, h1, h2⟩
    · obtain ⟨ab, ao, hab, hlt, hca⟩ := hc (by omega)
      cases hab
      refine (Tryz.slices_Clone_string ab ao l.length c l w (Nat.le_refl _) (by omega) (fun j hj => ?_)).mono ?_
      · have h := hca j 0 hj (by decide)
        rw [Nat.mul_one, Nat.add_zero] at h
        rw [h]
        unfold txAt
        rw [List.getD_eq_getElem?_getD, List.getElem?_eq_getElem hj]; rfl
      · rintro e W ⟨v', rfl, h1, _, h2⟩
        refine ⟨_, rfl, ?_, h2⟩
        rw [List.take_length] at h1
        exact h1
end Go.Proofs.YthpcbaamkeiffaaGreatDoor
namespace Go.Proofs.YthpcbaamkeiffaaGreatDoor
open Go.RowKit Go.Shelf
set_option linter.unusedVariables false
set_option linter.unusedSimpArgs false

theorem RusMem.mono {W : World} {B L L' : Nat} {v : Value} {l : List Ru} (h : RusMem W B L v l) (hL : L ≤ L') : RusMem W B L' v l := by
  obtain ⟨us, h1, h2⟩ := h
  exact ⟨us, h1, h2.imp fun x u _ h => h.mono hL⟩
theorem RusMem.block {W : World} {B L : Nat} {v : Value} {l : List Ru} (h : RusMem W B L v l) {k : Nat} (hk : v.ownBlock = some k) : B ≤ k ∧ k < W.heap.size := by
  obtain ⟨us, h1, h2⟩ := h
  exact h1.block hk
/-- The copies: the lists, the configuration's boxes. -/
structure OD (w : World) (c : Cf) (b1 b2 : Nat) (dA : Option Addr) (dc : Nat) (rA : Option Addr) (rc : Nat) (W : World) (us rs : List Value) : Prop where
  dirs : OwnU 48 3 drC W w.heap.size (.slice dA c.dirs.length dc) c.dirs us
  ros : OwnU 70 3 roC W w.heap.size (.slice rA c.ros.length rc) c.ros rs
  box : Blk W b1 27 #[.int .i64 c.cap, .int .i64 c.lim, .slice dA c.dirs.length dc, .slice rA c.ros.length rc]
  res : Blk W b2 27 #[.int .i64 0, .int .i64 0, .slice none 0 0, .slice none 0 0]
  bel : Below w.heap.size w W
section
variable {w W W' : World} {c : Cf} {b1 b2 : Nat} {dA rA : Option Addr} {dc rc : Nat} {us rs : List Value}
theorem OD.keep (h : OD w c b1 b2 dA dc rA rc W us rs) (hk : ∀ k t cs, Blk W k t cs → t = 48 ∨ t = 70 ∨ t = 27 → Blk W' k t cs) (hb : Below w.heap.size w W') : OD w c b1 b2 dA dc rA rc W' us rs :=
  ⟨h.dirs.keep fun k cs _ hb => hk k _ cs hb (.inl rfl), h.ros.keep fun k cs _ hb => hk k _ cs hb (.inr (.inl rfl)), hk _ _ _ h.box (.inr (.inr rfl)), hk _ _ _ h.res (.inr (.inr rfl)), hb⟩
theorem OD.call (h : OD w c b1 b2 dA dc rA rc W us rs) (hb : Below W.heap.size W W') : OD w c b1 b2 dA dc rA rc W' us rs := h.keep (fun k t cs hk _ => hk.call hb) (gr_call h.bel hb)
end
/-- The first i directories have rules of their own; the others show what they showed. -/
structure DI (w W : World) (i : Nat) (xs : List Dr) (us : List Value) : Prop where
  lo : ∀ j x u, j < i → xs[j]? = some x → us[j]? = some u → RusMem W w.heap.size W.heap.size u x.rus
  hi : ∀ j x u, i ≤ j → xs[j]? = some x → us[j]? = some u → RulesIn w u x.rus
  ap : ∀ j k a b, j < i → k < i → us[j]? = some a → us[k]? = some b → j ≠ k → RowsApart a b
/-- Rules: the first k have conditions of their own. -/
structure RI (w W : World) (k : Nat) (xs : List Ru) (vs : List Value) : Prop where
  lo : ∀ j y q, j < k → xs[j]? = some y → vs[j]? = some q → CdsMem W w.heap.size W.heap.size q y.cds
  hi : ∀ j y q, k ≤ j → xs[j]? = some y → vs[j]? = some q → CondsIn w q y.cds
/-- Directory i is at work: its rules lie in v. -/
structure DW (w W : World) (i : Nat) (xs : List Dr) (us : List Value) (v : Value) : Prop where
  at_ : us[i]? = some v
  lo : ∀ j x u, j < i → xs[j]? = some x → us[j]? = some u → RusMem W w.heap.size W.heap.size u x.rus
  hi : ∀ j x u, i < j → xs[j]? = some x → us[j]? = some u → RulesIn w u x.rus
  ap : ∀ j k a b, j ≤ i → k ≤ i → us[j]? = some a → us[k]? = some b → j ≠ k → RowsApart a b
section
variable {w W W1 W' : World} {c : Cf} {b1 b2 : Nat} {dA rA : Option Addr} {dc rc : Nat} {us rs : List Value}
/-- A store behind a call. -/
theorem kp {V W1 : World} (hb : Below V.heap.size V W1) {g o : Nat} (v : Value) {k : Nat} {t : TypeId} {cs : Array Value} (h : Blk V k t cs) (hne : k ≠ g) : Blk (W1.setCell ⟨g, o, none⟩ v) k t cs := (h.call hb).far hne _
theorem RusMem.step {V W1 : World} {B : Nat} {g o : Nat} {v u : Value} {l : List Ru} (h : RusMem V B V.heap.size u l) (hb : Below V.heap.size V W1) (hg : u.ownBlock ≠ some g) (hc : ∀ k cs, Blk V k 68 cs → k ≠ g) : RusMem (W1.setCell ⟨g, o, none⟩ v) B (W1.setCell ⟨g, o, none⟩ v).heap.size u l := by
  refine (h.keep (fun k cs hk hb' => kp hb v hb' (by rintro rfl; exact hg hk)) (fun k cs _ hb' => kp hb v hb' (hc k cs hb'))).mono ?_
  have := hb.size
  simpa [World.setCell] using this
/-- A directory's rules are copied. -/
theorem DI.copy {i : Nat} {x : Dr} {u : Value} {gd : Nat} (hO : OD w c b1 b2 (some ⟨gd, 0, none⟩) dc rA rc W us rs) (hD : DI w W i c.dirs us) (hx : c.dirs[i]? = some x) (hu : us[i]? = some u) (hb : Below W.heap.size W W1) {vA : Option Addr} {vc : Nat} {vs : List Value}
    (hv : OwnU 66 14 ruC W1 W.heap.size (.slice vA x.rus.length vc) x.rus vs) (hE : Each (fun y q => CondsIn w q y.cds) x.rus vs) :
    OD w c b1 b2 (some ⟨gd, 0, none⟩) dc rA rc (W1.setCell ⟨gd, i * 3 + 2, none⟩ (.slice vA x.rus.length vc)) (us.set i (.slice vA x.rus.length vc)) rs ∧ DW w (W1.setCell ⟨gd, i * 3 + 2, none⟩ (.slice vA x.rus.length vc)) i c.dirs (us.set i (.slice vA x.rus.length vc)) (.slice vA x.rus.length vc) ∧
    OwnU 66 14 ruC (W1.setCell ⟨gd, i * 3 + 2, none⟩ (.slice vA x.rus.length vc)) w.heap.size (.slice vA x.rus.length vc) x.rus vs ∧ RI w (W1.setCell ⟨gd, i * 3 + 2, none⟩ (.slice vA x.rus.length vc)) 0 x.rus vs := by
  have hO1 := hO.call hb
  obtain ⟨curd, hgd⟩ : ∃ q, Blk W1 gd 48 q := by
    rcases hO1.dirs.2.2 with ⟨e, _⟩ | ⟨g', cap', cur, e, _, hh, _⟩
    · cases e
    · cases e; exact ⟨cur, hh⟩
  have hgB := (hO1.dirs.block (k := gd) rfl).1
  have hul := (List.getElem?_eq_some_iff.1 hu).1
  have hne : ∀ k t cs, Blk W1 k t cs → t ≠ 48 → k ≠ gd := fun k t cs hk ht => hk.ne_ hgd ht
  have hne0 : ∀ k t cs, Blk W k t cs → t ≠ 48 → k ≠ gd := fun k t cs hk ht => hne k t cs (hk.call hb) ht
  have hBW : w.heap.size ≤ W.heap.size := hO.bel.size
  refine ⟨⟨?_, ?_, ?_, ?_, ?_⟩, ⟨?_, ?_, ?_, ?_⟩, ?_, ⟨?_, ?_⟩⟩
  · have h := hO1.dirs.stored drC_len hx hu (show 2 < 3 by decide) (c := .slice vA x.rus.length vc) (y := x) (v := .slice vA x.rus.length vc) rfl
    have hs : c.dirs.set i x = c.dirs := by
      refine List.ext_getElem? fun j => ?_
      by_cases e : i = j
      · subst e
        rw [List.getElem?_set_self', hx]; rfl
      · rw [List.getElem?_set_ne e]
    rw [hs] at h
    exact h
  · exact hO1.ros.keep fun k cs _ hk => hk.far (hne k _ cs hk (by decide)) _
  · exact hO1.box.far (hne _ _ _ hO1.box (by decide)) _
  · exact hO1.res.far (hne _ _ _ hO1.res (by decide)) _
  · exact hO1.bel.setCell hgB _
  · rw [List.getElem?_set_self hul]
  · intro j y q hj hy hq
    rw [List.getElem?_set_ne (by omega)] at hq
    refine (hD.lo j y q hj hy hq).step hb ?_ (fun k cs hk => hne0 k _ cs hk (by decide))
    intro e
    obtain ⟨ws, h1, _⟩ := hD.lo j y q hj hy hq
    obtain ⟨cur2, hgd2⟩ : ∃ q, Blk W gd 48 q := by
      rcases hO.dirs.2.2 with ⟨e, _⟩ | ⟨g', cap', cur, e, _, hh, _⟩
      · cases e
      · cases e; exact ⟨cur, hh⟩
    exact own_blk_ne h1.2 hgd2 (by decide) e.symm
  · intro j y q hj hy hq
    rw [List.getElem?_set_ne (by omega)] at hq
    exact hD.hi j y q (by omega) hy hq
  · intro j k a b hj hk ha hbk hjk q hqa hqb
    have key : ∀ (j : Nat) (a : Value), j < i → us[j]? = some a → a.ownBlock = some q → (Value.slice vA x.rus.length vc).ownBlock = some q → False := by
      intro j a hj ha h1 h2
      obtain ⟨y, hy⟩ : ∃ y, c.dirs[j]? = some y := ⟨_, List.getElem?_eq_getElem (by have h3 := (List.getElem?_eq_some_iff.1 ha).1; have h4 := hO.dirs.1; omega)⟩
      have h3 := (hD.lo j y a hj hy ha).block h1
      have h4 := hv.block h2
      omega
    by_cases hji : i = j
    · subst hji
      rw [List.getElem?_set_self hul] at ha
      cases ha
      rw [List.getElem?_set_ne hjk] at hbk
      exact key k b (by omega) hbk hqb hqa
    · rw [List.getElem?_set_ne hji] at ha
      by_cases hki : i = k
      · subst hki
        rw [List.getElem?_set_self hul] at hbk
        cases hbk
        exact key j a (by omega) ha hqa hqb
      · rw [List.getElem?_set_ne hki] at hbk
        exact hD.ap j k a b (by omega) (by omega) ha hbk hjk q hqa hqb
  · exact (hv.weaken hBW).keep fun k cs _ hk => hk.far (hne k _ cs hk (by decide)) _
  · intro j y q hj; omega
  · intro j y q _ hy hq
    exact hE j y q hy hq
/-- A rule's conditions are copied. -/
theorem RI.copy {i k : Nat} {x : Dr} {y : Ru} {q : Value} {gr cap : Nat} (hO : OD w c b1 b2 dA dc rA rc W us rs) (hD : DW w W i c.dirs us (.slice (some ⟨gr, 0, none⟩) x.rus.length cap)) {vs : List Value} (hv : OwnU 66 14 ruC W w.heap.size (.slice (some ⟨gr, 0, none⟩) x.rus.length cap) x.rus vs) (hR : RI w W k x.rus vs)
    (hy : x.rus[k]? = some y) (hq : vs[k]? = some q) (hb : Below W.heap.size W W1) {qA : Option Addr} {qc : Nat} {ws : List Value} (hc : OwnU 68 5 cdC W1 W.heap.size (.slice qA y.cds.length qc) y.cds ws) :
    OD w c b1 b2 dA dc rA rc (W1.setCell ⟨gr, k * 14 + 2, none⟩ (.slice qA y.cds.length qc)) us rs ∧ DW w (W1.setCell ⟨gr, k * 14 + 2, none⟩ (.slice qA y.cds.length qc)) i c.dirs us (.slice (some ⟨gr, 0, none⟩) x.rus.length cap) ∧
    OwnU 66 14 ruC (W1.setCell ⟨gr, k * 14 + 2, none⟩ (.slice qA y.cds.length qc)) w.heap.size (.slice (some ⟨gr, 0, none⟩) x.rus.length cap) x.rus (vs.set k (.slice qA y.cds.length qc)) ∧ RI w (W1.setCell ⟨gr, k * 14 + 2, none⟩ (.slice qA y.cds.length qc)) (k + 1) x.rus (vs.set k (.slice qA y.cds.length qc)) := by
  have hv1 := hv.below hb
  obtain ⟨cur, hgr⟩ : ∃ q, Blk W1 gr 66 q := by
    rcases hv1.2.2 with ⟨e, _⟩ | ⟨g', cap', cur, e, _, hh, _⟩
    · cases e
    · cases e; exact ⟨cur, hh⟩
  have hgB := (hv1.block (k := gr) rfl).1
  have hql := (List.getElem?_eq_some_iff.1 hq).1
  have hne : ∀ k t cs, Blk W1 k t cs → t ≠ 66 → k ≠ gr := fun k t cs hk ht => hk.ne_ hgr ht
  have hne0 : ∀ k t cs, Blk W k t cs → t ≠ 66 → k ≠ gr := fun k t cs hk ht => hne k t cs (hk.call hb) ht
  have hBW : w.heap.size ≤ W.heap.size := hO.bel.size
  have hsz : W.heap.size ≤ (W1.setCell ⟨gr, k * 14 + 2, none⟩ (.slice qA y.cds.length qc)).heap.size := by have := hb.size; simpa [World.setCell] using this
  refine ⟨?_, ⟨hD.at_, ?_, hD.hi, hD.ap⟩, ?_, ⟨?_, ?_⟩⟩
  · refine hO.keep (fun k t cs hk ht => kp hb _ hk (hne0 k t cs hk (by rcases ht with rfl | rfl | rfl <;> decide))) ((gr_call hO.bel hb).setCell hgB _)
  · intro j z u hj hz hu
    refine (hD.lo j z u hj hz hu).step hb ?_ (fun k cs hk => hne0 k _ cs hk (by decide))
    intro e
    exact hD.ap j i u _ (by omega) (Nat.le_refl _) hu hD.at_ (by omega) gr e rfl
  · have h := hv1.stored ruC_len hy hq (show 2 < 14 by decide) (c := .slice qA y.cds.length qc) (y := y) (v := .slice qA y.cds.length qc) rfl
    have hs : x.rus.set k y = x.rus := by
      refine List.ext_getElem? fun j => ?_
      by_cases e : k = j
      · subst e
        rw [List.getElem?_set_self', hy]; rfl
      · rw [List.getElem?_set_ne e]
    rw [hs] at h
    exact h
  · intro j z u hj hz hu
    by_cases e : k = j
    · subst e
      rw [List.getElem?_set_self hql] at hu
      cases hu
      obtain rfl : y = z := Option.some.inj (hy.symm.trans hz)
      refine ⟨⟨ws, (hc.weaken hBW).keep fun k cs _ hk => hk.far (hne k _ cs hk (by decide)) _⟩, fun k hk => ?_⟩
      have := (hc.block hk).2
      simpa [World.setCell] using this
    · rw [List.getElem?_set_ne e] at hu
      have h := hR.lo j z u (by omega) hz hu
      exact (h.keep fun k cs _ hk => kp hb _ hk (hne0 k _ cs hk (by decide))).mono hsz
  · intro j z u hj hz hu
    rw [List.getElem?_set_ne (by omega)] at hu
    exact hR.hi j z u (by omega) hz hu
/-- A directory is done. -/
theorem DW.done {i : Nat} {x : Dr} {v : Value} (hD : DW w W i c.dirs us v) (hx : c.dirs[i]? = some x) {vs : List Value} (hv : OwnU 66 14 ruC W w.heap.size v x.rus vs) (hR : RI w W x.rus.length x.rus vs) : DI w W (i + 1) c.dirs us := by
  refine ⟨fun j y u hj hy hu => ?_, fun j y u hj hy hu => hD.hi j y u (by omega) hy hu, fun j k a b hj hk => hD.ap j k a b (by omega) (by omega)⟩
  by_cases e : j = i
  · subst e
    obtain rfl : x = y := Option.some.inj (hx.symm.trans hy)
    rw [hD.at_] at hu
    cases hu
    exact ⟨vs, hv, fun k y q hy hq => hR.lo k y q (List.getElem?_eq_some_iff.1 hy).1 hy hq⟩
  · exact hD.lo j y u (by omega) hy hu
/-- The first i routes have segments of their own. -/
structure SI (w W : World) (i : Nat) (xs : List Ro) (rs : List Value) : Prop where
  lo : ∀ j x u, j < i → xs[j]? = some x → rs[j]? = some u → SegMem W w.heap.size u x.seg
  hi : ∀ j x u, i ≤ j → xs[j]? = some x → rs[j]? = some u → TextsIn w u x.seg
/-- A route's segments are copied. -/
theorem SI.copy {i : Nat} {x : Ro} {u : Value} {gr : Nat} (hO : OD w c b1 b2 dA dc (some ⟨gr, 0, none⟩) rc W us rs) (hD : DI w W c.dirs.length c.dirs us) (hS : SI w W i c.ros rs) (hx : c.ros[i]? = some x) (hu : rs[i]? = some u) (hb : Below W.heap.size W W1) {vA : Option Addr} {vn vc : Nat}
    (hv : SegMem W1 W.heap.size (.slice vA vn vc) x.seg) :
    OD w c b1 b2 dA dc (some ⟨gr, 0, none⟩) rc (W1.setCell ⟨gr, i * 3, none⟩ (.slice vA vn vc)) us (rs.set i (.slice vA vn vc)) ∧ DI w (W1.setCell ⟨gr, i * 3, none⟩ (.slice vA vn vc)) c.dirs.length c.dirs us ∧ SI w (W1.setCell ⟨gr, i * 3, none⟩ (.slice vA vn vc)) (i + 1) c.ros (rs.set i (.slice vA vn vc)) := by
  have hO1 := hO.call hb
  obtain ⟨cur, hgr⟩ : ∃ q, Blk W1 gr 70 q := by
    rcases hO1.ros.2.2 with ⟨e, _⟩ | ⟨g', cap', cur, e, _, hh, _⟩
    · cases e
    · cases e; exact ⟨cur, hh⟩
  have hgB := (hO1.ros.block (k := gr) rfl).1
  have hul := (List.getElem?_eq_some_iff.1 hu).1
  have hne : ∀ k t cs, Blk W1 k t cs → t ≠ 70 → k ≠ gr := fun k t cs hk ht => hk.ne_ hgr ht
  have hne0 : ∀ k t cs, Blk W k t cs → t ≠ 70 → k ≠ gr := fun k t cs hk ht => hne k t cs (hk.call hb) ht
  have hBW : w.heap.size ≤ W.heap.size := hO.bel.size
  refine ⟨⟨?_, ?_, ?_, ?_, ?_⟩, ⟨?_, hD.hi, hD.ap⟩, ⟨?_, ?_⟩⟩
  · exact hO1.dirs.keep fun k cs _ hk => hk.far (hne k _ cs hk (by decide)) _
  · have h := hO1.ros.stored roC_len hx hu (show 0 < 3 by decide) (c := .slice vA vn vc) (y := x) (v := .slice vA vn vc) rfl
    have hs : c.ros.set i x = c.ros := by
      refine List.ext_getElem? fun j => ?_
      by_cases e : i = j
      · subst e
        rw [List.getElem?_set_self', hx]; rfl
      · rw [List.getElem?_set_ne e]
    rw [hs] at h
    exact h
  · exact hO1.box.far (hne _ _ _ hO1.box (by decide)) _
  · exact hO1.res.far (hne _ _ _ hO1.res (by decide)) _
  · exact hO1.bel.setCell hgB _
  · intro j z u hj hz hu
    refine (hD.lo j z u hj hz hu).step hb ?_ (fun k cs hk => hne0 k _ cs hk (by decide))
    intro e
    obtain ⟨ws, h1, _⟩ := hD.lo j z u hj hz hu
    obtain ⟨cur2, hgr2⟩ : ∃ q, Blk W gr 70 q := by
      rcases hO.ros.2.2 with ⟨e, _⟩ | ⟨g', cap', cur, e, _, hh, _⟩
      · cases e
      · cases e; exact ⟨cur, hh⟩
    exact own_blk_ne h1.2 hgr2 (by decide) e.symm
  · intro j z u hj hz hu
    by_cases e : i = j
    · subst e
      rw [List.getElem?_set_self hul] at hu
      cases hu
      obtain rfl : x = z := Option.some.inj (hx.symm.trans hz)
      exact SegMem.keep (W := W1) (own_weaken hv hBW) fun k cs hk => hk.far (hne k _ cs hk (by decide)) _
    · rw [List.getElem?_set_ne e] at hu
      exact (hS.lo j z u (by omega) hz hu).keep fun k cs hk => kp hb _ hk (hne0 k _ cs hk (by decide))
  · intro j z u hj hz hu
    rw [List.getElem?_set_ne (by omega)] at hu
    exact hS.hi j z u (by omega) hz hu
end
end Go.Proofs.YthpcbaamkeiffaaGreatDoor
