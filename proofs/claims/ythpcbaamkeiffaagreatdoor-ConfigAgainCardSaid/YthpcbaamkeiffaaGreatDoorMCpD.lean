/-
  How large a configuration that is read can be, so that its text can be asked for; configurations' sizes as the contracts want them: plain; no condition.
-/
import Derived.Lib.ItoaLen
import Derived.Test.YthpcbaamkeiffaaGreatDoorMCpC
import Derived.Test.YthpcbaamkeiffaaGreatDoorMCfF
namespace Go.Proofs.YthpcbaamkeiffaaGreatDoor
set_option linter.unusedVariables false
set_option linter.unusedSimpArgs false

/-- What the contracts ask of a configuration's sizes. -/
structure TxSz (c : Cf) : Prop where
  ok : CfOk c
  rows : (cfRows c).length ≤ 100000
  words : ∀ r ∈ cfRows c, r.w.length ≤ 100000 ∧ ∀ d ∈ r.w, d.t.size ≤ 100000
  joins : ∀ r ∈ c.ros, (Lib.join (r.seg.map (·.data.toList)) [47]).length ≤ 100000000
  sz : CfSz c

/-! A measure of what is read. -/
structure RuB (B : Nat) (x : Ru) : Prop where
  p : x.p.size ≤ B
  tg : x.tg.size ≤ B
  cds : ∀ y ∈ x.cds, y.t.size ≤ B ∧ y.p.size ≤ B
structure RoB (B : Nat) (r : Ro) : Prop where
  join : (Lib.join (r.seg.map (·.data.toList)) [47]).length ≤ B + 1
  len : r.seg.length ≤ B + 1
  txt : r.txt.size ≤ B
structure BdRd (n B : Nat) (s : Rd) : Prop where
  rows : (s.c.dirs.flatMap drRows).length + s.c.ros.length + s.cds.length ≤ n
  dirs : ∀ d ∈ s.c.dirs, d.path.size ≤ B ∧ ∀ x ∈ d.rus, RuB B x
  cds : ∀ y ∈ s.cds, y.t.size ≤ B ∧ y.p.size ≤ B
  ros : ∀ r ∈ s.c.ros, RoB B r
theorem BdRd.zero (B : Nat) : BdRd 0 B zeroRd := ⟨Nat.le_refl _, (fun d hd => by cases hd), (fun d hd => by cases hd), (fun d hd => by cases hd)⟩
theorem lens_tot (Y : List (List UInt8)) : Lib.lens Y + Y.length = totL Y := by
  induction Y with
  | nil => rfl
  | cons y Y ih =>
    have h1 : Lib.lens (y :: Y) = y.length + Lib.lens Y := by simp [Lib.lens]
    have h2 : totL (y :: Y) = y.length + 1 + totL Y := rfl
    rw [h1, h2, List.length_cons]; omega
theorem join_tot (Y : List (List UInt8)) : (Lib.join Y [47]).length ≤ totL Y := by
  rw [← lens_tot]
  cases Y with
  | nil => exact Nat.zero_le _
  | cons y Y => rw [Lib.join_length]; simp; omega
theorem seg_size {s : ByteArray} {l : List ByteArray} (h : segsP s = some l) : (Lib.join (l.map (·.data.toList)) [47]).length ≤ s.size + 1 ∧ l.length ≤ s.size + 1 := by
  unfold segsP at h
  split at h
  · cases h; exact ⟨Nat.zero_le _, Nat.zero_le _⟩
  · split at h
    · rename_i c t ht
      split at h
      · cases h
        have e : ((splitL 47 t).map mkB).map (·.data.toList) = splitL 47 t := by
          rw [List.map_map]
          conv => rhs; rw [← List.map_id (splitL 47 t)]
          exact List.map_congr_left fun p _ => mkB_data p
        rw [e, List.length_map]
        have h1 := join_tot (splitL 47 t)
        have h2 := lens_tot (splitL 47 t)
        rw [totL_split] at h1 h2
        have h3 : s.size = s.data.toList.length := by rw [Array.length_toList]; rfl
        rw [ht, List.length_cons] at h3
        omega
      · cases h
    · cases h
theorem wdN_size {x : Rw} {B : Nat} (h : ∀ d ∈ x.w, d.t.size ≤ B) (i : Nat) : (wdN x i).t.size ≤ B := by
  unfold wdN
  rw [List.getD_eq_getElem?_getD]
  cases e : x.w[i]? with
  | none => exact Nat.zero_le _
  | some d => exact h d (List.mem_of_getElem? e)
theorem dr_rows (d : Dr) : (drRows d).length = 1 + (d.rus.flatMap ruRows).length := by unfold drRows; rw [List.length_cons]; omega
theorem ru_rows (x : Ru) : (ruRows x).length = x.cds.length + 1 := by unfold ruRows; simp
theorem BdRd.read {n B k : Nat} {s s' : Rd} {x : Rw} {e : Int × Int} (h : BdRd n B s) (hx : ∀ d ∈ x.w, d.t.size ≤ B) (hr : readP k s x = (some s', e)) : BdRd (n + 1) B s' := by
  obtain ⟨h1, h2, h3, h4⟩ := h
  have hw := fun i => wdN_size hx i
  rcases read_cases hr with ⟨v, q, _, rfl⟩ | ⟨v, q, _, rfl⟩ | ⟨_, rfl⟩ | ⟨set, f, q, _, rfl⟩ | ⟨set, f, q, _, rfl⟩ | ⟨l, hl, _, rfl⟩
  · exact ⟨Nat.le_succ_of_le h1, h2, h3, h4⟩
  · exact ⟨Nat.le_succ_of_le h1, h2, h3, h4⟩
  · refine ⟨?_, fun q hq => ?_, h3, h4⟩
    · show ((s.c.dirs ++ [_]).flatMap drRows).length + s.c.ros.length + s.cds.length ≤ n + 1
      rw [List.flatMap_append, List.length_append, List.flatMap_cons, List.flatMap_nil, List.append_nil, dr_rows]
      simp only [List.flatMap_nil, List.length_nil]
      omega
    · rcases List.mem_append.1 hq with hq | hq
      · exact h2 q hq
      · simp at hq
        subst hq
        exact ⟨hw 1, fun y hy => by cases hy⟩
  · refine ⟨?_, h2, fun y hy => ?_, h4⟩
    · show (s.c.dirs.flatMap drRows).length + s.c.ros.length + (s.cds ++ [_]).length ≤ n + 1
      rw [List.length_append, List.length_singleton]; omega
    · rcases List.mem_append.1 hy with hy | hy
      · exact h3 y hy
      · simp at hy
        subst hy
        exact ⟨hw 1, hw 2⟩
  · rcases List.eq_nil_or_concat s.c.dirs with hd | ⟨D, d, hd⟩
    · rw [hd]
      exact ⟨by show (([] : List Dr).flatMap drRows).length + s.c.ros.length + 0 ≤ n + 1; rw [hd] at h1; simp only [List.flatMap_nil, List.length_nil] at h1 ⊢; omega, (fun q hq => by cases hq), (fun y hy => by cases hy), h4⟩
    · rw [List.concat_eq_append] at hd
      rw [hd, addRu_last]
      rw [hd] at h1 h2
      have hdm := h2 d (by simp)
      refine ⟨?_, fun q hq => ?_, (fun y hy => by cases hy), h4⟩
      · show ((D ++ [_]).flatMap drRows).length + s.c.ros.length + 0 ≤ n + 1
        rw [List.flatMap_append, List.length_append, List.flatMap_cons, List.flatMap_nil, List.append_nil, dr_rows] at h1 ⊢
        simp only [List.flatMap_append, List.length_append, List.flatMap_cons, List.flatMap_nil, List.append_nil, ru_rows]
        omega
      · rcases List.mem_append.1 hq with hq | hq
        · exact h2 q (by simp [hq])
        · simp at hq
          subst hq
          refine ⟨hdm.1, fun y hy => ?_⟩
          rcases List.mem_append.1 hy with hy | hy
          · exact hdm.2 y hy
          · simp at hy
            subst hy
            exact ⟨hw 1, hw 2, h3⟩
  · refine ⟨?_, h2, h3, fun r hr => ?_⟩
    · show (s.c.dirs.flatMap drRows).length + (s.c.ros ++ [_]).length + s.cds.length ≤ n + 1
      rw [List.length_append, List.length_singleton]; omega
    · rcases List.mem_append.1 hr with hr | hr
      · exact h4 r hr
      · simp at hr
        subst hr
        have := seg_size hl
        have := hw 1
        exact ⟨by show (Lib.join (l.map (·.data.toList)) [47]).length ≤ B + 1; omega, by show l.length ≤ B + 1; omega, hw 3⟩
theorem BdRd.row {n B m : Nat} {last : ByteArray} {s s' : Rd} {x : Rw} {e : Int × Int} (h : BdRd n B s) (hx : ∀ d ∈ x.w, d.t.size ≤ B) (hr : rowP m last s x = (some s', e)) : BdRd (n + 1) B s' := by
  unfold rowP at hr
  split at hr
  · cases hr
  · split at hr
    · cases hr
    · split at hr
      · cases hr
      · exact h.read hx hr
theorem BdRd.run (size B : Nat) : ∀ (xs : List Rw) (n m : Nat) (last : ByteArray) (s : Rd) {s' : Rd} {e : Int × Int}, BdRd m B s → (∀ x ∈ xs, ∀ d ∈ x.w, d.t.size ≤ B) → runRd size xs n last s = (some s', e) → BdRd (m + xs.length) B s'
  | [], n, m, last, s, s', e, h, _, hr => by
    unfold runRd at hr
    split at hr
    · cases hr
    · cases hr; exact h
  | x :: xs, n, m, last, s, s', e, h, hx, hr => by
    unfold runRd at hr
    rcases hp : rowP n last s x with ⟨_ | s1, q⟩
    · rw [hp] at hr; cases hr
    · rw [hp] at hr
      have := BdRd.run size B xs _ (m + 1) _ _ (h.row (hx x (by simp)) hp) (fun y hy => hx y (by simp [hy])) hr
      rw [List.length_cons]
      exact (by omega : m + 1 + xs.length = m + (xs.length + 1)) ▸ this
theorem SzRd.run (size : Nat) : ∀ (xs : List Rw) (n m : Nat) (last : ByteArray) (s : Rd) {s' : Rd} {e : Int × Int}, SzRd m s → runRd size xs n last s = (some s', e) → SzRd (m + xs.length) s'
  | [], n, m, last, s, s', e, h, hr => by
    unfold runRd at hr
    split at hr
    · cases hr
    · cases hr; exact h
  | x :: xs, n, m, last, s, s', e, h, hr => by
    unfold runRd at hr
    rcases hp : rowP n last s x with ⟨_ | s1, q⟩
    · rw [hp] at hr; cases hr
    · rw [hp] at hr
      have := SzRd.run size xs _ (m + 1) _ _ (h.row hp) hr
      rw [List.length_cons]
      exact (by omega : m + 1 + xs.length = m + (xs.length + 1)) ▸ this
theorem whole_size {t : ByteArray} {s : Rd} {e : Int × Int} (h : wholeRd t = (some s, e)) : BdRd 20001 20000 s := by
  unfold wholeRd at h
  rcases hp : rowsR t.data.toList with ⟨_ | rs, q⟩
  · rw [hp] at h; cases h
  · rw [hp] at h
    obtain ⟨hl, _⟩ := rowsR_pos _ hp
    obtain ⟨h1, h2⟩ := rowsR_len _ hp
    have hb := BdRd.run t.size 20000 rs 0 0 ⟨#[]⟩ zeroRd (BdRd.zero _) (fun x hx d hd => Nat.le_trans ((h2 x hx).2 d hd) hl) h
    obtain ⟨a1, a2, a3, a4⟩ := hb
    exact ⟨by omega, a2, a3, a4⟩

theorem len_flat {α β : Type} (f : α → List β) {l : List α} {x : α} (h : x ∈ l) : (f x).length ≤ (l.flatMap f).length := by
  induction l with
  | nil => cases h
  | cons y l ih =>
    rw [List.flatMap_cons, List.length_append]
    rcases List.mem_cons.1 h with rfl | h
    · omega
    · have := ih h; omega

/-! What the contracts ask. -/
theorem opt_size {b : Bool} {s : ByteArray} {B : Nat} (h : s.size ≤ B) : (optB b s).length ≤ 1 ∧ ∀ t ∈ optB b s, t.size ≤ B := by
  cases b
  · exact ⟨Nat.zero_le _, fun t ht => by cases ht⟩
  · refine ⟨Nat.le_refl _, fun t ht => ?_⟩
    have ht : t ∈ [s] := ht
    simp at ht
    rw [ht]; exact h
theorem flz_all : ∀ i : Fin 75, ∀ x : Fin 3, (ftxV (wayF i.val (x.val == 0) (x.val == 1))).size ≤ 1000 := by decide +kernel
theorem fl_size {f : Flg} (h : chkF f = 0) : (ftxV f).size ≤ 1000 := by
  obtain ⟨i, a, d, hi, had, rfl⟩ := way_of h
  cases a
  · cases d
    · exact flz_all ⟨i, hi⟩ 2
    · exact flz_all ⟨i, hi⟩ 1
  · rw [had rfl]
    exact flz_all ⟨i, hi⟩ 0
theorem fl_skip {f : Flg} (h : chkF f = 0) : I64 f.skip := by
  obtain ⟨z1, z2, z3, z4⟩ := chkF_zero h
  unfold I64
  omega
/-- Rows whose words are few and short. -/
def SmR (l : List ByteArray) : Prop := l.length ≤ 100000 ∧ ∀ t ∈ l, t.size ≤ 100000
theorem SmR.row {l : List ByteArray} (h : SmR l) : (rowW l).w.length ≤ 100000 ∧ ∀ d ∈ (rowW l).w, d.t.size ≤ 100000 := by
  refine ⟨by unfold rowW; rw [List.length_map]; exact h.1, fun d hd => ?_⟩
  unfold rowW at hd
  obtain ⟨t, ht, rfl⟩ := List.mem_map.1 hd
  exact h.2 t ht
theorem path_size (l : List ByteArray) {B : Nat} (h : (Lib.join (l.map (·.data.toList)) [47]).length ≤ B) : (pathB l).size ≤ B + 1 := by
  unfold pathB
  split
  · exact Nat.le_add_left _ _
  · rw [ByteArray.size_append]
    have : (⟨(Lib.join (l.map (·.data.toList)) [47]).toArray⟩ : ByteArray).size = (Lib.join (l.map (·.data.toList)) [47]).length := by show (Lib.join (l.map (·.data.toList)) [47]).toArray.size = _; simp
    rw [this]
    show 1 + _ ≤ _
    omega
theorem itoa_size {n : Int} (h : 0 ≤ n ∧ n ≤ 1000000) : (itoaT n).size ≤ 21 := by
  have := Lib.itoa_length_le n (by omega) (by omega)
  unfold itoaT
  show (Lib.itoa n).toArray.size ≤ 21
  simpa using this
theorem tx_size {n B : Nat} {s : Rd} (hB : B ≤ 90000) (hn : n ≤ 90000) (h : BdRd n B s) (hz : CfSz s.c) (hg : CfGood s.c) : TxSz s.c := by
  obtain ⟨h1, h2, h3, h4⟩ := h
  obtain ⟨g1, g2, g3, g4⟩ := hg
  have hm : ∀ d ∈ s.c.dirs, I64 d.mode := fun d hd => by have := (g3 d hd).1; unfold I64; omega
  refine ⟨⟨by unfold I64; omega, by unfold I64; omega, hz.dirs, hz.ros, fun d hd => ⟨hm d hd, (hz.rus d hd).1, fun r hr => fl_skip ((g3 d hd).2 r hr), fun r hr => (hz.rus d hd).2 r hr⟩, fun r hr => ⟨?_, hz.seg r hr⟩⟩, ?_, ?_, ?_, hz⟩
  · have := (g4 r hr).1
    unfold I64; omega
  · unfold cfRows
    rw [List.length_append, List.length_append, List.length_map]
    show 2 + _ + _ ≤ _
    omega
  · intro r hr
    unfold cfRows at hr
    rcases List.mem_append.1 hr with hr | hr
    · rcases List.mem_append.1 hr with hr | hr
      · have hA := itoa_size g1
        have hL := itoa_size g2
        simp at hr
        rcases hr with rfl | rfl
        · refine SmR.row ⟨(by show 2 ≤ 100000; omega), fun t ht => ?_⟩
          simp at ht
          rcases ht with rfl | rfl
          · decide
          · omega
        · refine SmR.row ⟨(by show 2 ≤ 100000; omega), fun t ht => ?_⟩
          simp at ht
          rcases ht with rfl | rfl
          · decide
          · omega
      · obtain ⟨d, hd, hr⟩ := List.mem_flatMap.1 hr
        unfold drRows at hr
        rcases List.mem_cons.1 hr with rfl | hr
        · refine SmR.row ⟨(by show 3 ≤ 100000; omega), fun t ht => ?_⟩
          simp only [List.mem_cons, List.mem_nil_iff, or_false] at ht
          rcases ht with rfl | rfl | rfl
          · decide
          · have := (h2 d hd).1; omega
          · have : ∀ m : Fin 3, (modesL.getD m.val ⟨#[]⟩).size ≤ 100000 := by decide
            have hmm := (g3 d hd).1
            exact this ⟨d.mode.toNat, by omega⟩
        · obtain ⟨x, hx, hr⟩ := List.mem_flatMap.1 hr
          have hxB := (h2 d hd).2 x hx
          unfold ruRows at hr
          rcases List.mem_append.1 hr with hr | hr
          · obtain ⟨y, hy, rfl⟩ := List.mem_map.1 hr
            have hyB := hxB.cds y hy
            have o1 := opt_size (b := y.no) (s := sNot) (B := 100000) (by decide)
            have o2 := opt_size (b := y.nc) (s := sNocase) (B := 100000) (by decide)
            have o3 := opt_size (b := y.orr) (s := sOr) (B := 100000) (by decide)
            refine SmR.row ⟨?_, fun t ht => ?_⟩
            · simp only [List.length_append, List.length_cons, List.length_nil]; omega
            · simp only [List.mem_append, List.mem_cons, List.mem_nil_iff, or_false] at ht
              rcases ht with (((rfl | rfl | rfl) | ht) | ht) | ht
              · decide
              · omega
              · omega
              · exact o1.2 t ht
              · exact o2.2 t ht
              · exact o3.2 t ht
          · simp only [List.mem_cons, List.mem_nil_iff, or_false] at hr
            subst hr
            have o1 := opt_size (b := x.nc) (s := sNocase) (B := 100000) (by decide)
            have hf := fl_size ((g3 d hd).2 x hx)
            have o2 := opt_size (b := !decide ((ftxV x.fl).size = 0)) (s := ftxV x.fl) (B := 100000) (by omega)
            have hp := hxB.p
            have htg := hxB.tg
            refine SmR.row ⟨?_, fun t ht => ?_⟩
            · simp only [List.length_append, List.length_cons, List.length_nil]; omega
            · simp only [List.mem_append, List.mem_cons, List.mem_nil_iff, or_false] at ht
              rcases ht with ((rfl | rfl | rfl) | ht) | ht
              · decide
              · omega
              · omega
              · exact o1.2 t ht
              · exact o2.2 t ht
    · obtain ⟨r, hro, rfl⟩ := List.mem_map.1 hr
      have hrB := h4 r hro
      have hj := path_size r.seg hrB.join
      have ht2 := hrB.txt
      refine SmR.row ⟨(by show 4 ≤ 100000; omega), fun t ht => ?_⟩
      simp only [List.mem_cons, List.mem_nil_iff, or_false] at ht
      rcases ht with rfl | rfl | rfl | rfl
      · decide
      · omega
      · have : ∀ m : Fin 4, (kindsL.getD m.val ⟨#[]⟩).size ≤ 100000 := by decide
        have hmm := (g4 r hro).1
        exact this ⟨(r.kind - 1).toNat, by omega⟩
      · omega
  · intro r hr
    have := (h4 r hr).join
    omega
theorem read_tx {t : ByteArray} {s : Rd} {e : Int × Int} (h : wholeRd t = (some s, e)) : TxSz s.c := by
  have hb := whole_size h
  have hg := whole_good h
  have hz : CfSz s.c := by
    unfold wholeRd at h
    rcases hp : rowsR t.data.toList with ⟨_ | rs, q⟩
    · rw [hp] at h; cases h
    · rw [hp] at h
      obtain ⟨hl, _⟩ := rowsR_pos _ hp
      obtain ⟨h1, h2⟩ := rowsR_len _ hp
      have hs := SzRd.run t.size rs 0 0 ⟨#[]⟩ zeroRd SzRd.zero h
      obtain ⟨a1, a2, a3, a4, a5⟩ := hs
      refine ⟨by omega, by omega, fun d hd => ⟨by have := a2 d hd; omega, fun y hy => ?_⟩, fun r hr => by have := (hb.ros r hr).len; omega⟩
      have h5 := hb.rows
      have h6 : (drRows d).length ≤ (s.c.dirs.flatMap drRows).length := len_flat drRows hd
      have h7 : (ruRows y).length ≤ (d.rus.flatMap ruRows).length := len_flat ruRows hy
      rw [dr_rows] at h6
      rw [ru_rows] at h7
      omega
  exact tx_size (by decide) (by decide) hb hz hg
end Go.Proofs.YthpcbaamkeiffaaGreatDoor
