/-
  The laws' own functions on lists of words, rows, texts, walked; no condition beyond sizes.
-/
import Derived.Test.YtpicenopiigfpaaDoorRwJ
import Derived.Deep.QuietTactic
import Derived.BigQuiet
namespace Go.Proofs.YtpicenopiigfpaaDoor
open Go.RowKit
set_option linter.unusedVariables false
set_option linter.unusedSimpArgs false

/-! Lists that are only read. -/
def wdAt (ws : List Wd) : Nat → Nat → Value := fun i j => match ws[i]? with
  | some d => ((wdC d)[j]?).getD (.bool false)
  | none => .bool false
def rwAt (rs : List Rw) (vs : List Value) : Nat → Nat → Value := fun i j => match rs[i]?, vs[i]? with
  | some r, some u => if j = 0 then .int .i64 (r.a : Int) else u
  | _, _ => .bool false
def txAt (ts : List ByteArray) : Nat → Nat → Value := fun i _ => match ts[i]? with
  | some t => .string t
  | none => .bool false
theorem wdsC_at (ws : List Wd) : ∀ t, t < ws.length * 3 → (wdsC ws)[t]? = some (wdAt ws (t / 3) (t % 3)) := by
  induction ws with
  | nil => intro t h; simp at h
  | cons d ds ih =>
    intro t h
    match t, h with
    | 0, _ => rfl
    | 1, _ => rfl
    | 2, _ => rfl
    | t + 3, h =>
      have h2 := ih t (by rw [List.length_cons] at h; omega)
      have e1 : (t + 3) / 3 = t / 3 + 1 := by omega
      have e2 : (t + 3) % 3 = t % 3 := by omega
      rw [e1, e2]
      exact h2
theorem rowsC_at : ∀ (rs : List Rw) (vs : List Value), vs.length = rs.length → ∀ t, t < rs.length * 2 → (rowsC rs vs)[t]? = some (rwAt rs vs (t / 2) (t % 2))
  | [], _, _, t, h => by simp at h
  | r :: rs, [], h, _, _ => by simp at h
  | r :: rs, v :: vs, hl, t, h => by
    match t, h with
    | 0, _ => rfl
    | 1, _ => rfl
    | t + 2, h =>
      have h2 := rowsC_at rs vs (by simpa using hl) t (by rw [List.length_cons] at h; omega)
      have e1 : (t + 2) / 2 = t / 2 + 1 := by omega
      have e2 : (t + 2) % 2 = t % 2 := by omega
      rw [e1, e2]
      exact h2
theorem eq_flatC {l : List Value} {f : Nat → Nat → Value} {m n : Nat} (hl : l.length = n * m) (h : ∀ t, t < n * m → l[t]? = some (f (t / m) (t % m))) : l = flatC f m n := by
  apply List.ext_getElem?
  intro t
  by_cases ht : t < n * m
  · rw [flatC_at _ _ _ _ ht, h t ht]
  · rw [List.getElem?_eq_none (by omega), List.getElem?_eq_none (by rw [flatC_len]; omega)]
theorem rowsC_len : ∀ (rs : List Rw) (vs : List Value), vs.length = rs.length → (rowsC rs vs).length = rs.length * 2
  | [], [], _ => rfl
  | r :: rs, [], h => by simp at h
  | [], v :: vs, h => by simp at h
  | r :: rs, v :: vs, h => by
    have := rowsC_len rs vs (by simpa using h)
    show (rowsC rs vs).length + 1 + 1 = _
    rw [this, List.length_cons]; omega
def WordsIn (W : World) (v : Value) (ws : List Wd) : Prop := ∃ A c, v = .slice A ws.length c ∧ ArgOk A ws.length c ∧ Cells W A 3 ws.length (wdAt ws)
def RowsIn (W : World) (v : Value) (rs : List Rw) : Prop :=
  ∃ A c vs, v = .slice A rs.length c ∧ ArgOk A rs.length c ∧ Cells W A 2 rs.length (rwAt rs vs) ∧ vs.length = rs.length ∧ ∀ (i : Nat) (r : Rw) (u : Value), rs[i]? = some r → vs[i]? = some u → WordsIn W u r.w
def TextsIn (W : World) (v : Value) (ts : List ByteArray) : Prop := ∃ A c, v = .slice A ts.length c ∧ ArgOk A ts.length c ∧ Cells W A 1 ts.length (txAt ts)
theorem WordsIn.below {W W' : World} {v : Value} {ws : List Wd} (h : WordsIn W v ws) (hb : Below W.heap.size W W') : WordsIn W' v ws := by
  obtain ⟨A, c, h1, h2, h3⟩ := h
  exact ⟨A, c, h1, h2, h3.below hb⟩
theorem RowsIn.below {W W' : World} {v : Value} {rs : List Rw} (h : RowsIn W v rs) (hb : Below W.heap.size W W') : RowsIn W' v rs := by
  obtain ⟨A, c, vs, h1, h2, h3, h4, h5⟩ := h
  exact ⟨A, c, vs, h1, h2, h3.below hb, h4, fun i r u hr hu => (h5 i r u hr hu).below hb⟩
theorem TextsIn.below {W W' : World} {v : Value} {ts : List ByteArray} (h : TextsIn W v ts) (hb : Below W.heap.size W W') : TextsIn W' v ts := by
  obtain ⟨A, c, h1, h2, h3⟩ := h
  exact ⟨A, c, h1, h2, h3.below hb⟩
theorem own_words {W : World} {B : Nat} {v : Value} {ws : List Wd} (h : W.ownsRow B 41 3 v ws.length (wdsC ws)) : WordsIn W v ws := by
  rw [eq_flatC (f := wdAt ws) (m := 3) (n := ws.length) (wdsC_len ws) (wdsC_at ws)] at h
  obtain ⟨A, c, h1, h2, h3⟩ := row_cells (by decide) h
  exact ⟨A, c, h1, h3, h2⟩
theorem InnerOk.at_ {W : World} {B : Nat} : ∀ {rs : List Rw} {vs : List Value}, InnerOk W B rs vs → ∀ (i : Nat) (r : Rw) (u : Value), rs[i]? = some r → vs[i]? = some u → WordsIn W u r.w
  | [], [], _, i, r, u, hr, _ => by simp at hr
  | r :: rs, v :: vs, h, 0, r', u, hr, hu => by
    cases hr; cases hu
    exact own_words h.1
  | r :: rs, v :: vs, h, i + 1, r', u, hr, hu => InnerOk.at_ h.2 i r' u hr hu
theorem OwnRs.in_ {W : World} {B : Nat} {v : Value} {rs : List Rw} (h : OwnRs W B v rs) : RowsIn W v rs := by
  obtain ⟨vs, h1, h2⟩ := h
  have hl := h2.len
  rw [eq_flatC (f := rwAt rs vs) (m := 2) (n := rs.length) (rowsC_len rs vs hl) (rowsC_at rs vs hl)] at h1
  obtain ⟨A, c, e1, e2, e3⟩ := row_cells (by decide) h1
  exact ⟨A, c, vs, e1, e3, e2, hl, h2.at_⟩
def txC (ts : List ByteArray) : List Value := ts.map .string
theorem own_texts {W : World} {B : Nat} {v : Value} {ts : List ByteArray} (h : W.ownsRow B 9 1 v ts.length (txC ts)) : TextsIn W v ts := by
  rw [eq_flatC (l := txC ts) (f := txAt ts) (m := 1) (n := ts.length) (by simp [txC]) (by
    intro t ht
    have hk : t < ts.length := by omega
    show (ts.map Value.string)[t]? = some (match ts[t / 1]? with | some t => .string t | none => .bool false)
    rw [Nat.div_one, List.getElem?_map, List.getElem?_eq_getElem hk]; rfl)] at h
  obtain ⟨A, c, h1, h2, h3⟩ := row_cells (by decide) h
  exact ⟨A, c, h1, h3, h2⟩
theorem cells_wd {w : World} {A : Option Addr} {l : List Wd} (h : Cells w A 3 l.length (wdAt l)) {k : Nat} {d : Wd} (hp : l[k]? = some d) :
    ∃ ab ao, A = some ⟨ab, ao, none⟩ ∧ ab < w.heap.size ∧ w.cell? ⟨ab, ao + k * 3, none⟩ = some (.int .i64 (d.a : Int)) ∧ w.cell? ⟨ab, ao + k * 3 + 1, none⟩ = some (.string d.t) ∧ w.cell? ⟨ab, ao + k * 3 + 2, none⟩ = some (.bool d.q) := by
  have hk := (List.getElem?_eq_some_iff.1 hp).1
  obtain ⟨ab, ao, rfl, hlt, hc⟩ := h (by omega)
  have e : ∀ j, wdAt l k j = ((wdC d)[j]?).getD (.bool false) := fun j => by unfold wdAt; rw [hp]
  have c0 := hc k 0 hk (by decide)
  have c1 := hc k 1 hk (by decide)
  have c2 := hc k 2 hk (by decide)
  rw [e] at c0 c1 c2
  exact ⟨ab, ao, rfl, hlt, c0, c1, c2⟩
theorem cells_rw {w : World} {A : Option Addr} {l : List Rw} {vs : List Value} (h : Cells w A 2 l.length (rwAt l vs)) {k : Nat} {d : Rw} {u : Value} (hp : l[k]? = some d) (hu : vs[k]? = some u) :
    ∃ ab ao, A = some ⟨ab, ao, none⟩ ∧ ab < w.heap.size ∧ w.cell? ⟨ab, ao + k * 2, none⟩ = some (.int .i64 (d.a : Int)) ∧ w.cell? ⟨ab, ao + k * 2 + 1, none⟩ = some u := by
  have hk := (List.getElem?_eq_some_iff.1 hp).1
  obtain ⟨ab, ao, rfl, hlt, hc⟩ := h (by omega)
  have e : ∀ j, rwAt l vs k j = if j = 0 then .int .i64 (d.a : Int) else u := fun j => by unfold rwAt; rw [hp, hu]
  have c0 := hc k 0 hk (by decide)
  have c1 := hc k 1 hk (by decide)
  rw [e] at c0 c1
  exact ⟨ab, ao, rfl, hlt, c0, c1⟩
theorem cells_tx {w : World} {A : Option Addr} {l : List ByteArray} (h : Cells w A 1 l.length (txAt l)) {k : Nat} {d : ByteArray} (hp : l[k]? = some d) :
    ∃ ab ao, A = some ⟨ab, ao, none⟩ ∧ ab < w.heap.size ∧ w.cell? ⟨ab, ao + k, none⟩ = some (.string d) := by
  have hk := (List.getElem?_eq_some_iff.1 hp).1
  obtain ⟨ab, ao, rfl, hlt, hc⟩ := h (by omega)
  have c0 := hc k 0 hk (by decide)
  rw [show txAt l k 0 = .string d by unfold txAt; rw [hp]] at c0
  exact ⟨ab, ao, rfl, hlt, by simpa using c0⟩

set_option maxRecDepth 100000 in
theorem eqWord (d : Wd) (w : World) : (Op.equalIn 10000 41 (.agg #[.int .i64 (d.a : Int), .string d.t, .bool d.q]) (.agg #[.int .i64 (d.a : Int), .string d.t, .bool d.q])).run Tryd.prog w = .ok true w := by
  have u2 := Tryd.underlying3
  have a2 := Tryd.isAgg3
  have z2 := Tryd.sizeOf3
  have u3 := Tryd.underlying4
  have a3 := Tryd.isAgg4
  have z3 := Tryd.sizeOf4
  have u4 := Tryd.underlying9
  have a4 := Tryd.isAgg9
  have z4 := Tryd.sizeOf9
  rw [show (10000 : Nat) = 9999 + 1 from rfl, Op.equalIn]
  simp only [Sem.run_bind, run_underlying Tryd.underlying41, Result.andThen_ok]
  go_simp

set_option maxRecDepth 100000 in
set_option maxHeartbeats 2000000 in
theorem lsameWords (l : List Wd) (hl : l.length ≤ 100000000) (v u : Value) (w : World) (hv : WordsIn w v l) (hu : WordsIn w u l) :
    Calls Tryd.prog 17 #[v, u] w fun e W' => e = .returned (.bool true) ∧ ∃ q, W' = w.drewN q := by
  obtain ⟨A, c, rfl, _, hA⟩ := hv
  obtain ⟨B, d, rfl, _, hB⟩ := hu
  obtain ⟨n, hn⟩ : ∃ n, n = l.length := ⟨_, rfl⟩
  have HA := Lib.hid (And.intro hA (And.intro hB hn))
  rw [← hn] at hl ⊢
  clear hA hB hn
  go_enter Tryd.func17, Tryd.ntmps17
  go_wp2_with (fail)
  go_loopw [5] (fun iv wr => ∃ k q : Nat, k ≤ n ∧ iv = .int .i64 (k : Int) ∧ wr = w.drewN q) (fun iv _ => n - (intOf iv).toNat)
  case atStart => exact ⟨0, 0, Nat.zero_le _, rfl, rfl⟩
  case round =>
    obtain ⟨k, q, hk, rfl, rfl⟩ := hrel
    by_cases hlt : k < n
    · obtain ⟨p, hp⟩ : ∃ p, l[k]? = some p := ⟨_, List.getElem?_eq_getElem (by rw [← HA.out.2.2]; exact hlt)⟩
      obtain ⟨ab, ao, rfl, hab, c0, c1, c2⟩ := cells_wd HA.out.1 hp
      obtain ⟨bb, bo, rfl, hbb, d0, d1, d2⟩ := cells_wd HA.out.2.1 hp
      have hq := fun W => eqWord p W
      clear hp
      obtain ⟨p1, p2, p3⟩ := p
      go_wp2_with (fail)
      go_quiet (fail)
      go_wp2_with (fail)
      go_roundw
      case rel => exact ⟨k + 1, q + nq, by omega, rfl, rfl⟩
      case measure => simp [intOf]; omega
    · go_wp2_with (fail)
      go_ret
      exact ⟨rfl, q, rfl⟩
theorem WordsIn.drewN {W : World} {v : Value} {ws : List Wd} (h : WordsIn W v ws) (q : Nat) : WordsIn (W.drewN q) v ws := h.below (below_drewN (Below.refl _ _) q)

set_option maxRecDepth 100000 in
set_option maxHeartbeats 2000000 in
theorem lsameTexts (l : List ByteArray) (hl : l.length ≤ 100000000) (v u : Value) (w : World) (hv : TextsIn w v l) (hu : TextsIn w u l) :
    Calls Tryd.prog 15 #[v, u] w fun e W' => e = .returned (.bool true) ∧ Below w.heap.size w W' := by
  obtain ⟨A, c, rfl, _, hA⟩ := hv
  obtain ⟨B, d, rfl, _, hB⟩ := hu
  obtain ⟨n, hn⟩ : ∃ n, n = l.length := ⟨_, rfl⟩
  have HA := Lib.hid (And.intro hA (And.intro hB hn))
  rw [← hn] at hl ⊢
  clear hA hB hn
  go_enter Tryd.func15, Tryd.ntmps15
  go_wp2_with (fail)
  go_loopw [5] (fun iv wr => ∃ k : Nat, k ≤ n ∧ iv = .int .i64 (k : Int) ∧ Below w.heap.size w wr) (fun iv _ => n - (intOf iv).toNat)
  case atStart => exact ⟨0, Nat.zero_le _, rfl, Below.refl _ _⟩
  case round =>
    obtain ⟨k, hk, rfl, hbel⟩ := hrel
    by_cases hlt : k < n
    · obtain ⟨p, hp⟩ : ∃ p, l[k]? = some p := ⟨_, List.getElem?_eq_getElem (by rw [← HA.out.2.2]; exact hlt)⟩
      obtain ⟨ab, ao, rfl, hab, c0⟩ := cells_tx (HA.out.1.below hbel) hp
      obtain ⟨bb, bo, rfl, hbb, d0⟩ := cells_tx (HA.out.2.1.below hbel) hp
      have F := Lib.hid hbel
      clear hbel hp
      go_wp2_with (fail)
      go_quiet (fail)
      go_wp2_with (fail)
      go_roundw
      case rel => exact ⟨k + 1, by omega, rfl, below_drewN F.out _⟩
      case measure => simp [intOf]; omega
    · have F := Lib.hid hbel
      clear hbel
      go_wp2_with (fail)
      go_ret
      exact ⟨rfl, F.out⟩
end Go.Proofs.YtpicenopiigfpaaDoor
