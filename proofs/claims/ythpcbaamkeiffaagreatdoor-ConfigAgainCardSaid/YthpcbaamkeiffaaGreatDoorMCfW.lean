/-
  whole, Parse and Places of config, walked; conditions: the text's size, the tables and variables as they are laid.
  waypostkit.SameInts, walked; no condition.
  Parse and Places of config, walked; conditions: the text's size, the tables and variables as they are laid.
-/
import Derived.WalkKit
import Derived.BigQuiet
import Derived.Deep.QuietTactic
import Derived.Test.YthpcbaamkeiffaaGreatDoorMCfU
import Derived.Test.YthpcbaamkeiffaaGreatDoorMRwQt
import Derived.Test.YthpcbaamkeiffaaGreatDoorProg
namespace Go.Proofs.YthpcbaamkeiffaaGreatDoor
open Go.RowKit Go.Shelf
set_option linter.unusedVariables false
set_option linter.unusedSimpArgs false

theorem rowsF_end : ∀ (ps : List (List UInt8)) (o : Nat), (∃ rs, rowsF o ps = (some rs, 0, 0)) ∨ ∃ e a, rowsF o ps = (none, e, a) ∧ e ≠ 0
  | [], o => .inl ⟨[], rfl⟩
  | p :: ps, o => by
    by_cases hp : 1000 < p.length
    · exact .inr ⟨4, _, rowsF_long hp, by decide⟩
    · rcases e1 : lineL o p with ⟨_ | ws, x⟩
      · exact .inr ⟨3, _, rowsF_bad hp e1, by decide⟩
      · rw [rowsF_line hp e1]
        rcases rowsF_end ps (o + p.length + 1) with ⟨rs, h⟩ | ⟨e, a, h, h0⟩
        · rw [h]; exact .inl ⟨_, rfl⟩
        · rw [h]; exact .inr ⟨e, a, rfl, h0⟩
theorem rowsR_end (l : List UInt8) : (∃ rs, rowsR l = (some rs, 0, 0)) ∨ ∃ e a, rowsR l = (none, e, a) ∧ e ≠ 0 := by
  unfold rowsR
  by_cases h : 20000 < l.length
  · rw [if_pos h]; exact .inr ⟨4, 20000, rfl, by decide⟩
  · rw [if_neg h]; exact rowsF_end _ _
theorem rs_ok {l : List UInt8} {rs : List Rw} {e : Int × Int} (h : rowsR l = (some rs, e)) : RsOk rs := by
  obtain ⟨h1, h2⟩ := rowsR_len l h
  obtain ⟨h3, h4⟩ := rowsR_pos l h
  refine ⟨by omega, fun x hx => ?_⟩
  obtain ⟨h5, h6⟩ := h2 x hx
  obtain ⟨h7, h8, h9⟩ := h4 x hx
  exact ⟨h7, by omega, fun q hq => by have := h6 q hq; have := h9 q hq; omega⟩

/-! A fault is an error. -/
theorem opts_err (nm : List ByteArray) (fl : Bool) : ∀ (ws : List Wd) (set : List Bool) (nx : Nat) (had : Bool) (f : Flg) {e a : Int}, optsP nm fl ws set nx had f = (none, e, a) → e ≠ 0
  | [], set, nx, had, f, e, a, h => by cases h
  | w :: ws, set, nx, had, f, e, a, h => by
    have h : (if fl = true ∧ isBr w.t = true then
      if had = true then (none, 8, w.a)
      else if (parseS w.t).2.1 = 0 then optsP nm fl ws set nx true (parseS w.t).1
      else (none, (parseS w.t).2.1, w.a + if w.q then 0 else ((parseS w.t).2.2 : Int))
    else if Lib.idxOfS nm w.t < 0 then (none, 11, w.a)
    else if (Lib.idxOfS nm w.t).toNat < nx ∨ had = true then (none, 8, w.a)
    else optsP nm fl ws (set.set (Lib.idxOfS nm w.t).toNat true) ((Lib.idxOfS nm w.t).toNat + 1) had f) = (none, e, a) := h
    split at h
    · split at h
      · cases h; decide
      · split at h
        · exact opts_err nm fl ws _ _ _ _ h
        · rename_i hp
          injection h with _ h
          injection h with h _
          rw [← h]; exact hp
    · split at h
      · cases h; decide
      · split at h
        · cases h; decide
        · exact opts_err nm fl ws _ _ _ _ h
theorem num_err {w : Wd} {e a : Int} (h : numW w = (none, e, a)) : e ≠ 0 := by
  unfold numW at h
  split at h
  · cases h
  · rename_i h0
    injection h with _ h
    injection h with h _
    rw [← h]; exact h0
theorem read_err {k : Nat} {s : Rd} {x : Rw} {e a : Int} (h : readP k s x = (none, e, a)) : e ≠ 0 := by
  match k with
  | 0 =>
    rcases hn : numW (wdN x 1) with ⟨_ | v, q⟩
    · rw [readP, hn] at h; dsimp only at h; injection h with _ h; subst h; exact num_err hn
    · rw [readP, hn] at h; dsimp only at h; cases h
  | 1 =>
    rcases hn : numW (wdN x 1) with ⟨_ | v, q⟩
    · rw [readP, hn] at h; dsimp only at h; injection h with _ h; subst h; exact num_err hn
    · rw [readP, hn] at h; dsimp only at h; cases h
  | 2 =>
    rw [readP] at h
    split at h
    · cases h; decide
    · cases h
  | 3 =>
    rcases hn : optsP condL false (x.w.drop 3) [false, false, false] 0 false zeroF with ⟨_ | ⟨v, f⟩, q⟩
    · rw [readP, hn] at h; dsimp only at h; injection h with _ h; subst h; exact opts_err _ _ _ _ _ _ _ hn
    · rw [readP, hn] at h; dsimp only at h; cases h
  | 4 =>
    rcases hn : optsP ruleL true (x.w.drop 3) [false] 0 false zeroF with ⟨_ | ⟨v, f⟩, q⟩
    · rw [readP, hn] at h; dsimp only at h; injection h with _ h; subst h; exact opts_err _ _ _ _ _ _ _ hn
    · rw [readP, hn] at h; dsimp only at h; cases h
  | k + 5 =>
    have h : ((match segsP (wdN x 1).t with
      | none => (none, 3, (wdN x 1).a)
      | some l => if Lib.idxOfS kindsL (wdN x 2).t < 0 then (none, 11, (wdN x 2).a)
        else (some { s with c := { s.c with ros := s.c.ros ++ [⟨l, Lib.idxOfS kindsL (wdN x 2).t + 1, (wdN x 3).t⟩] } }, 0, 0)) : Option Rd × Int × Int) = (none, e, a) := h
    rcases hn : segsP (wdN x 1).t with _ | l
    · rw [hn] at h; dsimp only at h; cases h; decide
    · rw [hn] at h; dsimp only at h
      split at h
      · cases h; decide
      · cases h
theorem row_err {n : Nat} {last : ByteArray} {s : Rd} {x : Rw} {e a : Int} (h : rowP n last s x = (none, e, a)) : e ≠ 0 := by
  unfold rowP at h
  split at h
  · cases h; decide
  · split at h
    · cases h; decide
    · split at h
      · cases h; decide
      · exact read_err h
theorem run_err (size : Nat) : ∀ (xs : List Rw) (n : Nat) (last : ByteArray) (s : Rd) {e a : Int}, runRd size xs n last s = (none, e, a) → e ≠ 0
  | [], n, last, s, e, a, h => by
    unfold runRd at h
    split at h
    · cases h; decide
    · cases h
  | x :: xs, n, last, s, e, a, h => by
    unfold runRd at h
    rcases hp : rowP n last s x with ⟨_ | s1, q⟩
    · rw [hp] at h; dsimp only at h; injection h with _ h; subst h; exact row_err hp
    · rw [hp] at h
      exact run_err size xs _ _ _ h
theorem whole_err {t : ByteArray} {e a : Int} (h : wholeRd t = (none, e, a)) : e ≠ 0 := by
  unfold wholeRd at h
  rcases rowsR_end t.data.toList with ⟨rs, hr⟩ | ⟨e', a', hr, h0⟩
  · rw [hr] at h; exact run_err _ _ _ _ _ h
  · rw [hr] at h; cases h; exact h0

/-- What whole leaves behind. -/
def WholeP (w : World) (r : Option Rd × Int × Int) (e : Ending) (W' : World) : Prop := match r with
  | (some s, _) => ∃ g rows vw d r cs pl n u B L, e = .returned (.tuple #[.pointer (some ⟨g, 0, none⟩), .agg #[.int .i64 0, .int .i64 0]]) ∧ Blk W' g 92 (rdV rows vw d r cs pl n u 0 0 s.c.cap s.c.lim) ∧ RdMem W' B L s d r cs pl ∧ w.heap.size ≤ B ∧ Below w.heap.size w W'
  | (none, er, a) => e = .returned (.tuple #[.pointer none, .agg #[.int .i64 er, .int .i64 a]]) ∧ er ≠ 0 ∧ Below w.heap.size w W'
def WRel (w0 : World) (rs : List Rw) (rows : Value) (g : Nat) (t : ByteArray) (m : Nat) (wr : World) : Prop :=
  ∃ (k u : Nat) (vw : Value) (s : Rd) (d r cs pl : Value) (L : Nat) (last : ByteArray), m = rs.length - k ∧ k ≤ rs.length ∧ RdAt w0 rows g wr k u vw s d r cs pl L ∧ SzRd k s ∧ (0 < k → last = (wdN (rs.getD (k - 1) ⟨0, []⟩) 0).t) ∧ wholeRd t = runRd t.size (rs.drop k) k last s
theorem RdMem.zero (W : World) (B : Nat) : RdMem W B B zeroRd (.slice none 0 0) (.slice none 0 0) (.slice none 0 0) (.slice none 0 0) :=
  ⟨⟨[], OwnU.nil _ _ _, Each.nil _ _, fun i j a b h => by simp at h⟩, ⟨[], OwnU.nil _ _ _, Each.nil _ _⟩, ⟨[], OwnU.nil _ _ _⟩, World.ownsRow_nil _ _ _ _, Nat.le_refl _⟩
set_option maxRecDepth 100000 in
set_option maxHeartbeats 8000000 in
theorem whole_code (t : ByteArray) (ht : t.size ≤ 1000000) (w : World) (hE : Env w) :
    Calls Tryz.prog 41 #[.string t] w (WholeP w (wholeRd t)) := by
  have H := Lib.hid hE
  obtain ⟨post, hpost⟩ : ∃ p, p = WholeP w (wholeRd t) := ⟨_, rfl⟩
  rw [← hpost]
  have HP := Lib.hid hpost
  clear hE hpost
  go_enter Tryz.func41, Tryz.ntmps41
  go_wp2_with (fail)
  refine (wrows t (by omega) _ ((H.out.below (gr_alloc (Below.refl _ _) _)).num.e0)).mono ?_
  rintro e W1 ⟨v, rfl, hown, hb1⟩
  have hf3 : Blk W1 w.heap.size 33 #[.int .i64 0, .int .i64 0] := (Blk.new _ _ _).call hb1
  have hbw := gr_call (gr_alloc (Below.refl _ _) _) hb1
  rcases rowsR_end t.data.toList with ⟨rs, hr⟩ | ⟨er, a, hr, h0⟩
  · rw [hr] at hown ⊢
    have hown : OwnRs W1 (w.alloc (.cells #[.int .i64 0, .int .i64 0] 33)).heap.size v rs := hown
    obtain ⟨rA, rc, rfl⟩ := hown.slice
    have hrs := rs_ok hr
    have hw : wholeRd t = runRd t.size rs 0 ⟨#[]⟩ zeroRd := by unfold wholeRd; rw [hr]
    have hri := hown.in_
    obtain ⟨rn, hrn⟩ : ∃ q, q = rs.length := ⟨_, rfl⟩
    rw [← hrn] at hri ⊢
    obtain ⟨f3, hf3e⟩ : ∃ q, q = w.heap.size := ⟨_, rfl⟩
    have K := Lib.hid (And.intro hbw (And.intro hf3 (And.intro hrs (And.intro hw (And.intro hri (And.intro hrn hf3e))))))
    rw [← hf3e]
    clear hown hb1 hf3 hbw hr hw hrs hri hf3e
    have hrl : rn ≤ 50000 := by rw [hrn]; exact K.out.2.2.1.len
    clear hrn
    go_wp2_with (fail)
    have hsz : (W1.alloc (.cells #[.int .i64 0, .int .i64 0] 33)).heap.size = W1.heap.size + 1 := by simp
    have hb0 : Below w.heap.size w (W1.alloc (.cells #[.int .i64 0, .int .i64 0] 33)) := gr_alloc K.out.1 _
    have hf0 : Blk (W1.alloc (.cells #[.int .i64 0, .int .i64 0] 33)) f3 33 #[.int .i64 0, .int .i64 0] := by rw [K.out.2.2.2.2.2.2]; exact K.out.2.1.alloc _
    have hri0 : RowsIn (W1.alloc (.cells #[.int .i64 0, .int .i64 0] 33)) (.slice rA rn rc) rs := K.out.2.2.2.2.1.below (gr_alloc (Below.refl _ _) _)
    rw [← hsz]
    generalize (W1.alloc (.cells #[.int .i64 0, .int .i64 0] 33)) = w0 at hb0 hf0 hri0 hsz ⊢
    obtain ⟨g, hg⟩ : ∃ b, b = w0.heap.size := ⟨_, rfl⟩
    rw [← hg]
    have M := Lib.hid (And.intro hb0 (And.intro hf0 (And.intro hri0 hg)))
    have hfg : f3 < g := by rw [hg]; exact hf0.lt
    have hE0 := Lib.hid (H.out.below hb0)
    clear hb0 hf0 hri0 hg hsz
    go_loopg [] rn (fun m wr => WRel w0 rs (.slice rA rn rc) g t m wr)
    case atStart =>
      have hg := M.out.2.2.2
      refine ⟨0, 0, .slice none 0 0, zeroRd, .slice none 0 0, .slice none 0 0, .slice none 0 0, .slice none 0 0, w0.heap.size, ⟨#[]⟩, K.out.2.2.2.2.2.1, Nat.zero_le _, ⟨?_, (RdMem.zero _ _), gr_alloc (Below.refl _ _) _, by rw [hg]; exact Nat.le_refl _, (gr_alloc (Below.refl _ _) _).size⟩, SzRd.zero, fun h => absurd h (by decide), by rw [List.drop_zero]; exact K.out.2.2.2.1⟩
      rw [hg]
      exact Blk.new _ _ _
    case round =>
      obtain ⟨k, u, vw, s, d, r, cs, pl, L, last, hm, hk, hR, hz, hlast, hwr⟩ := hrel
      have hrn := K.out.2.2.2.2.2.1
      have hf3e := K.out.2.2.2.2.2.2
      have c1 : wr.cell? ⟨g, 1, none⟩ = some (.int .i64 (k : Int)) := hR.blk.cell' (i := 1) rfl
      have gl := hR.blk.lt
      by_cases hlt : k < rn
      · have hki : (k : Int) < rn := by omega
        have hrc := row_code w0 hE0.out rs (.slice rA rn rc) M.out.2.2.1 K.out.2.2.1 g k u vw s d r cs pl L wr hR (by omega) hz last hlast
        obtain ⟨x, hx⟩ : ∃ x, x = rs.getD k ⟨0, []⟩ := ⟨_, rfl⟩
        rw [← hx] at hrc
        have hwr2 : wholeRd t = match rowP k last s x with | (some s', _) => runRd t.size (rs.drop (k + 1)) (k + 1) (wdN x 0).t s' | (none, e) => (none, e) := by
          rw [hwr, List.drop_eq_getElem_cons (by omega)]
          have : rs[k]'(by omega) = x := by rw [hx, List.getD_eq_getElem?_getD, List.getElem?_eq_getElem (by omega)]; rfl
          rw [this]; rfl
        obtain ⟨rp, hrp⟩ : ∃ q, q = rowP k last s x := ⟨_, rfl⟩
        rw [← hrp] at hrc hwr2
        have N := Lib.hid (And.intro hm (And.intro hk (And.intro hz (And.intro hx (And.intro hrp (And.intro hrn hf3e))))))
        clear hm hk hR hz hx hrp hlast hwr hrn hf3e
        go_wp2_with (fail)
        refine hrc.mono ?_
        rintro e W6 hm6
        clear hrc c1 gl
        obtain ⟨rv, er, ea⟩ := rp
        cases rv with
        | none =>
          obtain ⟨rfl, cells, h1, h2, h3, h4⟩ := hm6
          have g4 : W6.cell? ⟨g, 4, none⟩ = some (.int .i64 er) := h1.cell' h2
          have g5 : W6.cell? ⟨g, 5, none⟩ = some (.int .i64 ea) := h1.cell' h3
          have gl := h1.lt
          have hf6 : Blk W6 f3 33 #[.int .i64 0, .int .i64 0] := M.out.2.1.below h4 M.out.2.1.lt
          have q0 : W6.cell? ⟨f3, 0, none⟩ = some (.int .i64 0) := hf6.cell' (i := 0) rfl
          have q1 : W6.cell? ⟨f3, 1, none⟩ = some (.int .i64 0) := hf6.cell' (i := 1) rfl
          have qf0 := hf6.frozen 0
          have qf1 := hf6.frozen 1
          have ql := hf6.lt
          have hne : f3 ≠ g := by omega
          have Q := Lib.hid (And.intro hf6 (And.intro (M.out.1.trans (h4.mono M.out.1.size)) hwr2))
          clear h1 h2 h3 h4 hf6 hwr2
          go_wp2_with (fail)
          go_region
          all_goals go_wp2_with (fail)
          all_goals
            have hbZ : Below w.heap.size w (((W6.setCell ⟨f3, 0, none⟩ (.int .i64 er)).setCell ⟨f3, 1, none⟩ (.int .i64 ea)).drew) := gr_drew ((Q.out.2.1.setCell (Nat.le_of_eq N.out.2.2.2.2.2.2.symm) _).setCell (Nat.le_of_eq N.out.2.2.2.2.2.2.symm) _)
            have hfZ : Blk (((W6.setCell ⟨f3, 0, none⟩ (.int .i64 er)).setCell ⟨f3, 1, none⟩ (.int .i64 ea)).drew) f3 33 #[.int .i64 er, .int .i64 ea] := ((Q.out.1.set_ 0 (.int .i64 er)).set_ 1 (.int .i64 ea)).drew
            generalize ((W6.setCell ⟨f3, 0, none⟩ (.int .i64 er)).setCell ⟨f3, 1, none⟩ (.int .i64 ea)).drew = Z at hbZ hfZ ⊢
            have r0 : Z.cell? ⟨f3, 0, none⟩ = some (.int .i64 er) := hfZ.cell' (i := 0) rfl
            have r1 : Z.cell? ⟨f3, 1, none⟩ = some (.int .i64 ea) := hfZ.cell' (i := 1) rfl
            refine bodyPost_ret (v := .tuple #[.pointer none, .agg #[.int .i64 er, .int .i64 ea]]) (by simp [results, Tryz.results41, go_sem, r0, r1]) rfl ?_
            rw [HP.out, Q.out.2.2]
            exact ⟨rfl, whole_err Q.out.2.2, hbZ⟩
        | some s' =>
          obtain ⟨rfl, u', vw', d', r', cs', pl', L', hR'⟩ := hm6
          have Q := Lib.hid (And.intro hR' hwr2)
          clear hR' hwr2
          go_wp2_with (fail)
          go_roundg (rn - (k + 1))
          · refine ⟨k + 1, u', vw', s', d', r', cs', pl', L', (wdN x 0).t, by rw [N.out.2.2.2.2.2.1], by have := N.out.2.2.2.2.2.1; omega, Q.out.1, N.out.2.2.1.row N.out.2.2.2.2.1.symm, fun _ => ?_, Q.out.2⟩
            rw [Nat.add_sub_cancel, ← N.out.2.2.2.1]
          · have := N.out.1
            have := N.out.2.2.2.2.2.1
            omega
      · have hki : ¬ (k : Int) < rn := by omega
        have hkr : k = rs.length := by omega
        have hwr2 : wholeRd t = if k < 2 ∨ last = sIf then (none, 8, (t.size : Int)) else (some s, 0, 0) := by
          rw [hwr, hkr, List.drop_length]; rfl
        have hfr : Blk wr f3 33 #[.int .i64 0, .int .i64 0] := M.out.2.1.below hR.bel M.out.2.1.lt
        have hwt := waits_code w0 rs (.slice rA rn rc) M.out.2.2.1 g k u vw s d r cs pl L wr hR (by omega) (by have := K.out.2.2.1.len; omega) (fun x hx => (K.out.2.2.1.row x hx).1)
        have q0 : wr.cell? ⟨f3, 0, none⟩ = some (.int .i64 0) := hfr.cell' (i := 0) rfl
        have q1 : wr.cell? ⟨f3, 1, none⟩ = some (.int .i64 0) := hfr.cell' (i := 1) rfl
        have qf0 := hfr.frozen 0
        have qf1 := hfr.frozen 1
        have ql := hfr.lt
        have hne : f3 ≠ g := by omega
        have hkrn : k = rn := by omega
        have Q := Lib.hid (And.intro hfr (And.intro (M.out.1.trans (hR.bel.mono M.out.1.size)) (And.intro hf3e hwr2)))
        have HKR := Lib.hid (And.intro hkrn (And.intro hR hlast))
        clear hfr hf3e hwr2 hm hk hR hz hlast hwr hrn hkr hkrn
        by_cases h2 : rn < 2
        · have h2i : (rn : Int) < 2 := by omega
          have h2k := Lib.hid (show k < 2 by have := HKR.out.1; omega)
          clear h2 hwt
          go_wp2_with (fail)
          have hbZ : Below w.heap.size w ((wr.setCell ⟨f3, 0, none⟩ (.int .i64 8)).setCell ⟨f3, 1, none⟩ (.int .i64 (t.size : Int))) := (Q.out.2.1.setCell (Nat.le_of_eq Q.out.2.2.1.symm) _).setCell (Nat.le_of_eq Q.out.2.2.1.symm) _
          have hfZ : Blk ((wr.setCell ⟨f3, 0, none⟩ (.int .i64 8)).setCell ⟨f3, 1, none⟩ (.int .i64 (t.size : Int))) f3 33 #[.int .i64 8, .int .i64 (t.size : Int)] := (Q.out.1.set_ 0 (.int .i64 8)).set_ 1 (.int .i64 (t.size : Int))
          generalize (wr.setCell ⟨f3, 0, none⟩ (.int .i64 8)).setCell ⟨f3, 1, none⟩ (.int .i64 (t.size : Int)) = Z at hbZ hfZ ⊢
          have r0 : Z.cell? ⟨f3, 0, none⟩ = some (.int .i64 8) := hfZ.cell' (i := 0) rfl
          have r1 : Z.cell? ⟨f3, 1, none⟩ = some (.int .i64 (t.size : Int)) := hfZ.cell' (i := 1) rfl
          refine bodyPost_ret (v := .tuple #[.pointer none, .agg #[.int .i64 8, .int .i64 (t.size : Int)]]) (by simp [results, Tryz.results41, go_sem, r0, r1]) rfl ?_
          rw [HP.out, Q.out.2.2.2, if_pos (.inl h2k.out)]
          exact ⟨rfl, by decide, hbZ⟩
        · have h2i : ¬ (rn : Int) < 2 := by omega
          have hk0 : 0 < k := by have := HKR.out.1; omega
          have hwe : decide (0 < k ∧ (wdN (rs.getD (k - 1) ⟨0, []⟩) 0).t = sIf) = decide (last = sIf) := by
            rw [← HKR.out.2.2 hk0]
            exact decide_eq_decide.2 ⟨fun h => h.2, fun h => ⟨hk0, h⟩⟩
          rw [hwe] at hwt
          have h2k := Lib.hid (show ¬ k < 2 by have := HKR.out.1; omega)
          clear h2 hk0 hwe
          by_cases hl : last = sIf
          · rw [decide_eq_true hl] at hwt
            have HL := Lib.hid hl
            clear hl
            go_wp2_with (fail)
            refine hwt.mono ?_
            rintro e Wq ⟨rfl, q, rfl⟩
            have Q3 := Lib.hid (And.intro (Q.out.1.drewN q) (below_drewN Q.out.2.1 q))
            clear hwt c1 gl q0 q1 qf0 qf1 ql
            generalize wr.drewN q = wr2 at Q3 ⊢
            have q0 : wr2.cell? ⟨f3, 0, none⟩ = some (.int .i64 0) := Q3.out.1.cell' (i := 0) rfl
            have q1 : wr2.cell? ⟨f3, 1, none⟩ = some (.int .i64 0) := Q3.out.1.cell' (i := 1) rfl
            have qf0 := Q3.out.1.frozen 0
            have qf1 := Q3.out.1.frozen 1
            have ql := Q3.out.1.lt
            go_wp2_with (fail)
            have hbZ : Below w.heap.size w ((wr2.setCell ⟨f3, 0, none⟩ (.int .i64 8)).setCell ⟨f3, 1, none⟩ (.int .i64 (t.size : Int))) := (Q3.out.2.setCell (Nat.le_of_eq Q.out.2.2.1.symm) _).setCell (Nat.le_of_eq Q.out.2.2.1.symm) _
            have hfZ : Blk ((wr2.setCell ⟨f3, 0, none⟩ (.int .i64 8)).setCell ⟨f3, 1, none⟩ (.int .i64 (t.size : Int))) f3 33 #[.int .i64 8, .int .i64 (t.size : Int)] := (Q3.out.1.set_ 0 (.int .i64 8)).set_ 1 (.int .i64 (t.size : Int))
            generalize (wr2.setCell ⟨f3, 0, none⟩ (.int .i64 8)).setCell ⟨f3, 1, none⟩ (.int .i64 (t.size : Int)) = Z at hbZ hfZ ⊢
            have r0 : Z.cell? ⟨f3, 0, none⟩ = some (.int .i64 8) := hfZ.cell' (i := 0) rfl
            have r1 : Z.cell? ⟨f3, 1, none⟩ = some (.int .i64 (t.size : Int)) := hfZ.cell' (i := 1) rfl
            refine bodyPost_ret (v := .tuple #[.pointer none, .agg #[.int .i64 8, .int .i64 (t.size : Int)]]) (by simp [results, Tryz.results41, go_sem, r0, r1]) rfl ?_
            rw [HP.out, Q.out.2.2.2, if_pos (.inr HL.out)]
            exact ⟨rfl, by decide, hbZ⟩
          · rw [decide_eq_false hl] at hwt
            have HL := Lib.hid hl
            clear hl
            go_wp2_with (fail)
            refine hwt.mono ?_
            rintro e Wq ⟨rfl, q, rfl⟩
            have Q3 := Lib.hid (And.intro (Q.out.1.drewN q) (And.intro (below_drewN Q.out.2.1 q) (HKR.out.2.1.drewN q)))
            clear hwt c1 gl q0 q1 qf0 qf1 ql
            generalize wr.drewN q = wr2 at Q3 ⊢
            have q0 : wr2.cell? ⟨f3, 0, none⟩ = some (.int .i64 0) := Q3.out.1.cell' (i := 0) rfl
            have q1 : wr2.cell? ⟨f3, 1, none⟩ = some (.int .i64 0) := Q3.out.1.cell' (i := 1) rfl
            have qf0 := Q3.out.1.frozen 0
            have qf1 := Q3.out.1.frozen 1
            have ql := Q3.out.1.lt
            go_wp2_with (fail)
            have hgf : wr2.grownBy ((wr2.setCell ⟨f3, 0, none⟩ (.int .i64 0)).setCell ⟨f3, 1, none⟩ (.int .i64 0)) (some f3) := only_setCell (only_setCell (only_refl _ _) (p := ⟨f3, 0, none⟩) (Or.inl rfl) _) (p := ⟨f3, 1, none⟩) (Or.inl rfl) _
            have hbg := Q3.out.2.2.blk.grown hgf (by intro e; cases e; exact hne rfl)
            have hmg := Q3.out.2.2.mem.grown Q3.out.1 (by unfold OwnT; decide) hgf
            have hbZ : Below w.heap.size w ((wr2.setCell ⟨f3, 0, none⟩ (.int .i64 0)).setCell ⟨f3, 1, none⟩ (.int .i64 0)) := (Q3.out.2.1.setCell (Nat.le_of_eq Q.out.2.2.1.symm) _).setCell (Nat.le_of_eq Q.out.2.2.1.symm) _
            have hfZ : Blk ((wr2.setCell ⟨f3, 0, none⟩ (.int .i64 0)).setCell ⟨f3, 1, none⟩ (.int .i64 0)) f3 33 #[.int .i64 0, .int .i64 0] := (Q3.out.1.set_ 0 (.int .i64 0)).set_ 1 (.int .i64 0)
            generalize (wr2.setCell ⟨f3, 0, none⟩ (.int .i64 0)).setCell ⟨f3, 1, none⟩ (.int .i64 0) = Z at hbZ hfZ hbg hmg ⊢
            have r0 : Z.cell? ⟨f3, 0, none⟩ = some (.int .i64 0) := hfZ.cell' (i := 0) rfl
            have r1 : Z.cell? ⟨f3, 1, none⟩ = some (.int .i64 0) := hfZ.cell' (i := 1) rfl
            refine bodyPost_ret (v := .tuple #[.pointer (some ⟨g, 0, none⟩), .agg #[.int .i64 0, .int .i64 0]]) (by simp [results, Tryz.results41, go_sem, r0, r1]) rfl ?_
            rw [HP.out, Q.out.2.2.2, if_neg (by rintro (h | h); exact h2k.out h; exact HL.out h)]
            exact ⟨g, _, vw, d, r, cs, pl, k, u, w0.heap.size, L, rfl, hbg, hmg, M.out.1.size, hbZ⟩
  · rw [hr] at hown ⊢
    obtain ⟨rA, rc, rfl⟩ := hown.slice
    have hw : wholeRd t = (none, er, a) := by unfold wholeRd; rw [hr]
    rw [hw] at HP
    have h0b : (er != 0) = true := bne_iff_ne.2 h0
    have c0 : W1.cell? ⟨w.heap.size, 0, none⟩ = some (.int .i64 0) := hf3.cell' (i := 0) rfl
    have c1 : W1.cell? ⟨w.heap.size, 1, none⟩ = some (.int .i64 0) := hf3.cell' (i := 1) rfl
    have z0 := hf3.frozen 0
    have z1 := hf3.frozen 1
    have zl := hf3.lt
    have K := Lib.hid (And.intro hbw (And.intro h0 hf3))
    clear hown hb1 hf3 hbw hr hw h0
    go_wp2_with (fail)
    go_region
    all_goals go_wp2_with (fail)
    all_goals
      have hbZ : Below w.heap.size w (((W1.setCell ⟨w.heap.size, 0, none⟩ (.int .i64 er)).setCell ⟨w.heap.size, 1, none⟩ (.int .i64 a)).alloc (.cells #[.int .i64 er, .int .i64 a] 33)).drew := gr_drew (gr_alloc ((K.out.1.setCell (Nat.le_refl _) _).setCell (Nat.le_refl _) _) _)
      have hfZ : Blk (((W1.setCell ⟨w.heap.size, 0, none⟩ (.int .i64 er)).setCell ⟨w.heap.size, 1, none⟩ (.int .i64 a)).alloc (.cells #[.int .i64 er, .int .i64 a] 33)).drew w.heap.size 33 #[.int .i64 er, .int .i64 a] := ((((K.out.2.2.set_ 0 (.int .i64 er)).set_ 1 (.int .i64 a)).alloc _).drew)
      generalize (((W1.setCell ⟨w.heap.size, 0, none⟩ (.int .i64 er)).setCell ⟨w.heap.size, 1, none⟩ (.int .i64 a)).alloc (.cells #[.int .i64 er, .int .i64 a] 33)).drew = Z at hbZ hfZ ⊢
      have r0 : Z.cell? ⟨w.heap.size, 0, none⟩ = some (.int .i64 er) := hfZ.cell' (i := 0) rfl
      have r1 : Z.cell? ⟨w.heap.size, 1, none⟩ = some (.int .i64 a) := hfZ.cell' (i := 1) rfl
      refine bodyPost_ret (v := .tuple #[.pointer none, .agg #[.int .i64 er, .int .i64 a]]) (by simp [results, Tryz.results41, go_sem, r0, r1]) rfl ?_
      rw [HP.out]
      exact ⟨rfl, K.out.2.1, hbZ⟩
end Go.Proofs.YthpcbaamkeiffaaGreatDoor
namespace Go.Proofs.YthpcbaamkeiffaaGreatDoor
open Go.RowKit
set_option linter.unusedVariables false
set_option linter.unusedSimpArgs false

def intsAt (L : List Int) : Nat → Nat → Value := fun i _ => .int .i64 (L.getD i 0)
/-- Two lists agree on their first k. -/
def agree (L M : List Int) (k : Nat) : Prop := ∀ i, i < k → L.getD i 0 = M.getD i 0
theorem agree_eq {L M : List Int} (hl : L.length = M.length) (h : agree L M L.length) : L = M := by
  apply List.ext_getElem hl
  intro i h1 h2
  have := h i h1
  simpa [List.getD, h1, h2] using this

set_option maxRecDepth 100000 in
set_option maxHeartbeats 2000000 in
theorem sameInts (L M : List Int) (A B : Option Addr) (c d : Nat) (hL : L.length ≤ 1000000) (hM : M.length ≤ 1000000) (w : World) (hA : Cells w A 1 L.length (intsAt L)) (hB : Cells w B 1 M.length (intsAt M)) :
    Calls Tryz.prog 25 #[.slice A L.length c, .slice B M.length d] w fun e W' => e = .returned (.bool (decide (L = M))) ∧ Below w.heap.size w W' := by
  have H := Lib.hid (And.intro hA hB)
  clear hA hB
  by_cases hl : L.length = M.length
  · have HL := Lib.hid hl
    rw [← hl]
    obtain ⟨n, hn⟩ : ∃ n, n = L.length := ⟨_, rfl⟩
    rw [← hn]
    rw [← hn] at hL
    have HN := Lib.hid hn
    clear hl hM hn
    go_enter Tryz.func25, Tryz.ntmps25
    go_wp2_with (fail)
    go_loopw [5] (fun i wr => Below w.heap.size w wr ∧ ∃ k : Nat, k ≤ n ∧ i = .int .i64 (k : Int) ∧ agree L M k) (fun i _ => n - (intOf i).toNat)
    case atStart => exact ⟨Below.refl _ _, 0, Nat.zero_le _, rfl, fun i hi => absurd hi (by omega)⟩
    case round =>
      obtain ⟨hbel, k, hk, rfl, hag⟩ := hrel
      have HG := Lib.hid hag
      have HB := Lib.hid hbel
      clear hag hbel
      by_cases hlt : k < n
      · obtain ⟨ab, ao, rfl, had, hcl⟩ := (H.out.1.below HB.out) (by rw [← HN.out]; omega)
        obtain ⟨bb, bo, rfl, hbd, hdl⟩ := (H.out.2.below HB.out) (by rw [← HL.out, ← HN.out]; omega)
        have c0 : wr.cell? ⟨ab, ao + k, none⟩ = some (.int .i64 (L.getD k 0)) := by have h1 := hcl k 0 (by rw [← HN.out]; exact hlt) (by decide); rw [Nat.mul_one, Nat.add_zero] at h1; exact h1
        have d0 : wr.cell? ⟨bb, bo + k, none⟩ = some (.int .i64 (M.getD k 0)) := by have h1 := hdl k 0 (by rw [← HL.out, ← HN.out]; exact hlt) (by decide); rw [Nat.mul_one, Nat.add_zero] at h1; exact h1
        clear hcl hdl
        generalize hx : L.getD k 0 = x at c0
        generalize hy : M.getD k 0 = y at d0
        have HXY := Lib.hid (And.intro hx hy)
        clear hx hy
        by_cases hxy : x = y
        · have hb : (x != y) = false := by rw [hxy]; simp
          have HQ := Lib.hid hxy
          clear hxy
          go_wp2_with (fail)
          go_quiet (fail)
          go_wp2_with (fail)
          refine ⟨⟨below_drewN HB.out _, k + 1, by omega, by go_num, fun i hi => ?_⟩, by simp [intOf]; omega⟩
          by_cases e : i = k
          · subst e; rw [HXY.out.1, HXY.out.2]; exact HQ.out
          · exact HG.out i (by omega)
        · have hb : (x != y) = true := by simpa using hxy
          have HQ := Lib.hid hxy
          clear hxy
          go_wp2_with (fail)
          go_quiet (fail)
          go_wp2_with (fail)
          go_ret
          refine ⟨ret_bool ?_, below_drewN HB.out _⟩
          refine (decide_eq_false fun e => HQ.out ?_).symm
          rw [← HXY.out.1, ← HXY.out.2, e]
      · obtain rfl : k = n := by omega
        go_wp2_with (fail)
        go_ret
        refine ⟨ret_bool ?_, HB.out⟩
        exact (decide_eq_true (agree_eq HL.out (by rw [← HN.out]; exact HG.out))).symm
  · have hne : ((L.length : Int) != (M.length : Int)) = true := by
      rw [bne_iff_ne]
      omega
    have HQ := Lib.hid (fun e : L = M => hl (by rw [e]))
    clear hl
    go_enter Tryz.func25, Tryz.ntmps25
    go_wp2_with (fail)
    go_ret
    exact ⟨ret_bool (decide_eq_false HQ.out).symm, Below.refl _ _⟩

end Go.Proofs.YthpcbaamkeiffaaGreatDoor
namespace Go.Proofs.YthpcbaamkeiffaaGreatDoor
open Go.RowKit Go.Shelf
set_option linter.unusedVariables false
set_option linter.unusedSimpArgs false

/-! What is owned can be read. -/
section
variable {W : World} {B L : Nat}
theorem CdsMem.in_ {v : Value} {l : List Cd} (h : CdsMem W B L v l) : CondsIn W v l := h.1.choose_spec.in_ cdC_len (by decide) (fun _ _ _ _ _ => trivial)
theorem RusMem.in_ {v : Value} {l : List Ru} (h : RusMem W B L v l) : RulesIn W v l := by
  obtain ⟨us, h1, h2⟩ := h
  exact h1.in_ ruC_len (by decide) (inner := fun W x u => CondsIn W u x.cds) (h2.imp fun x u _ h => h.in_)
theorem DrsMem.in_ {v : Value} {l : List Dr} (h : DrsMem W B L v l) : DirsIn W v l := by
  obtain ⟨us, h1, h2, _⟩ := h
  exact h1.in_ drC_len (by decide) (inner := fun W x u => RulesIn W u x.rus) (h2.imp fun x u _ h => h.in_)
theorem own_cap {T : TypeId} {m n : Nat} {v : Value} {xs : List Value} (h : W.ownsRow B T m v n xs) : CapOk v := by
  intro a k c e
  rcases h.2 with ⟨h1, h2⟩ | ⟨g, cap, cur, hv, _, _, hn, _⟩
  · rw [h1] at e; cases e; exact Nat.le_refl _
  · rw [hv] at e; cases e; exact hn
theorem RosMem.in_ {v : Value} {l : List Ro} (h : RosMem W B v l) : RoutesIn W v l := by
  obtain ⟨us, h1, h2⟩ := h
  exact h1.in_ roC_len (by decide) (inner := fun W x u => TextsIn W u x.seg ∧ CapOk u) (h2.imp fun x u _ h => ⟨own_texts h, own_cap h⟩)
theorem own_intsAt {v : Value} {l : List Int} (h : IntMem W B v l) : ∃ A c, v = .slice A l.length c ∧ Cells W A 1 l.length (intsAt l) := by
  unfold IntMem at h
  rw [eq_flatC (l := l.map (Value.int .i64)) (f := intsAt l) (m := 1) (n := l.length) (by simp) (by
    intro t ht
    have hk : t < l.length := by omega
    show (l.map (Value.int .i64))[t]? = some (.int .i64 (l.getD (t / 1) 0))
    rw [Nat.div_one, List.getElem?_map, List.getElem?_eq_getElem hk, List.getD_eq_getElem?_getD, List.getElem?_eq_getElem hk]; rfl)] at h
  obtain ⟨A, c, h1, h2, _⟩ := row_cells (by decide) h
  exact ⟨A, c, h1, h2⟩
end
theorem run_zero (size : Nat) : ∀ (xs : List Rw) (n : Nat) (last : ByteArray) (s : Rd) {s' : Rd} {e : Int × Int}, runRd size xs n last s = (some s', e) → e = (0, 0)
  | [], n, last, s, s', e, h => by
    unfold runRd at h
    split at h
    · cases h
    · cases h; rfl
  | x :: xs, n, last, s, s', e, h => by
    unfold runRd at h
    rcases hp : rowP n last s x with ⟨_ | s1, q⟩
    · rw [hp] at h; cases h
    · rw [hp] at h
      exact run_zero size xs _ _ _ h
theorem whole_zero {t : ByteArray} {s : Rd} {e : Int × Int} (h : wholeRd t = (some s, e)) : e = (0, 0) := by
  unfold wholeRd at h
  rcases hp : rowsR t.data.toList with ⟨_ | rs, q⟩
  · rw [hp] at h; cases h
  · rw [hp] at h
    exact run_zero _ _ _ _ _ h
/-- The configuration, and the places, that a text says. -/
def cfR (r : Option Rd × Int × Int) : Cf := match r.1 with
  | some s => s.c
  | none => zeroCf
def plP (r : Option Rd × Int × Int) : List Int := match r.1 with
  | some s => s.pl
  | none => []
def ParP (w : World) (r : Option Rd × Int × Int) (e : Ending) (W' : World) : Prop := ∃ v, e = .returned (.tuple #[v, .agg #[.int .i64 r.2.1, .int .i64 r.2.2]]) ∧ CfIn W' v (cfR r) ∧ Below w.heap.size w W'
def PlaP (w : World) (r : Option Rd × Int × Int) (e : Ending) (W' : World) : Prop := ∃ A c, e = .returned (.tuple #[.slice A (plP r).length c, .agg #[.int .i64 r.2.1, .int .i64 r.2.2]]) ∧ Cells W' A 1 (plP r).length (intsAt (plP r)) ∧ Below w.heap.size w W'
theorem CfIn.zero (W : World) : CfIn W (.agg #[.int .i64 0, .int .i64 0, .slice none 0 0, .slice none 0 0]) zeroCf := ⟨_, _, rfl, InL.nil _ _, InL.nil _ _⟩
theorem par_six {W1 Z : World} {b2 b3 : Nat} {a0 a1 a2 a3 e0 e1 : Value} (hc : Blk W1 b2 27 #[a0, a1, a2, a3]) (hf : Blk W1 b3 33 #[e0, e1]) (hn : b2 ≠ b3) (c0 c1 c2 c3 f0 f1 : Value)
    (hZ : Z = (((((W1.setCell ⟨b2, 0, none⟩ c0).setCell ⟨b2, 1, none⟩ c1).setCell ⟨b2, 2, none⟩ c2).setCell ⟨b2, 3, none⟩ c3).setCell ⟨b3, 0, none⟩ f0).setCell ⟨b3, 1, none⟩ f1) :
    Blk Z b2 27 #[c0, c1, c2, c3] ∧ Blk Z b3 33 #[f0, f1] ∧ (∀ k t cs, Blk W1 k t cs → k ≠ b2 → k ≠ b3 → Blk Z k t cs) ∧ ∀ B w, B ≤ b2 → B ≤ b3 → Below B w W1 → Below B w Z := by
  subst hZ
  refine ⟨?_, ?_, ?_, ?_⟩
  · exact (((((hc.set_ 0 c0).set_ 1 c1).set_ 2 c2).set_ 3 c3).far (p := ⟨b3, 0, none⟩) hn _).far (p := ⟨b3, 1, none⟩) hn _
  · exact (((((hf.far (p := ⟨b2, 0, none⟩) (Ne.symm hn) _).far (p := ⟨b2, 1, none⟩) (Ne.symm hn) _).far (p := ⟨b2, 2, none⟩) (Ne.symm hn) _).far (p := ⟨b2, 3, none⟩) (Ne.symm hn) _).set_ 0 f0).set_ 1 f1
  · intro k t cs h h2 h3
    exact (((((h.far (p := ⟨b2, 0, none⟩) h2 _).far (p := ⟨b2, 1, none⟩) h2 _).far (p := ⟨b2, 2, none⟩) h2 _).far (p := ⟨b2, 3, none⟩) h2 _).far (p := ⟨b3, 0, none⟩) h3 _).far (p := ⟨b3, 1, none⟩) h3 _
  · intro B w h2 h3 h
    exact ((((((h.setCell h2 _).setCell h2 _).setCell h2 _).setCell h2 _).setCell h3 _).setCell h3 _)
set_option maxRecDepth 100000 in
set_option maxHeartbeats 8000000 in
theorem parse_code (t : ByteArray) (ht : t.size ≤ 1000000) (w : World) (hE : Env w) : Calls Tryz.prog 11 #[.string t] w (ParP w (wholeRd t)) := by
  have hE2 : Env ((w.alloc (.cells #[.int .i64 0, .int .i64 0, .slice none 0 0, .slice none 0 0] 27)).alloc (.cells #[.int .i64 0, .int .i64 0] 33)) := hE.below (gr_alloc (gr_alloc (Below.refl _ _) _) _)
  have hwc := whole_code t ht _ hE2
  obtain ⟨res, hres⟩ : ∃ q, q = wholeRd t := ⟨_, rfl⟩
  rw [← hres] at hwc ⊢
  obtain ⟨post, hpost⟩ : ∃ p, p = ParP w res := ⟨_, rfl⟩
  rw [← hpost]
  have HP := Lib.hid (And.intro hpost hres)
  clear hE hE2 hpost hres
  go_enter Tryz.func11, Tryz.ntmps11
  go_wp2_with (fail)
  refine hwc.mono ?_
  rintro e W1 hm
  clear hwc
  have hb0 : Below w.heap.size w ((w.alloc (.cells #[.int .i64 0, .int .i64 0, .slice none 0 0, .slice none 0 0] 27)).alloc (.cells #[.int .i64 0, .int .i64 0] 33)) := gr_alloc (gr_alloc (Below.refl _ _) _) _
  have hcB : Blk ((w.alloc (.cells #[.int .i64 0, .int .i64 0, .slice none 0 0, .slice none 0 0] 27)).alloc (.cells #[.int .i64 0, .int .i64 0] 33)) w.heap.size 27 #[.int .i64 0, .int .i64 0, .slice none 0 0, .slice none 0 0] := (Blk.new _ _ _).alloc _
  have hfB : Blk ((w.alloc (.cells #[.int .i64 0, .int .i64 0, .slice none 0 0, .slice none 0 0] 27)).alloc (.cells #[.int .i64 0, .int .i64 0] 33)) (w.heap.size + 1) 33 #[.int .i64 0, .int .i64 0] := blk_at (by simp)
  generalize ((w.alloc (.cells #[.int .i64 0, .int .i64 0, .slice none 0 0, .slice none 0 0] 27)).alloc (.cells #[.int .i64 0, .int .i64 0] 33)) = w0 at hm hb0 hcB hfB
  obtain ⟨b2, hb2e⟩ : ∃ b, b = w.heap.size := ⟨_, rfl⟩
  obtain ⟨b3, hb3e⟩ : ∃ b, b = w.heap.size + 1 := ⟨_, rfl⟩
  rw [← hb3e] at hfB ⊢
  rw [← hb2e] at hcB ⊢
  have hn23 : b2 ≠ b3 := by omega
  obtain ⟨rv, er, a⟩ := res
  cases rv with
  | none =>
    obtain ⟨rfl, h0, hb1⟩ := hm
    have h0b : (er != 0) = true := bne_iff_ne.2 h0
    have hc1 := hcB.call hb1
    have hf1 := hfB.call hb1
    have x0 : W1.cell? ⟨b2, 0, none⟩ = some (.int .i64 0) := hc1.cell' (i := 0) rfl
    have x1 : W1.cell? ⟨b2, 1, none⟩ = some (.int .i64 0) := hc1.cell' (i := 1) rfl
    have x2 : W1.cell? ⟨b2, 2, none⟩ = some (.slice none 0 0) := hc1.cell' (i := 2) rfl
    have x3 : W1.cell? ⟨b2, 3, none⟩ = some (.slice none 0 0) := hc1.cell' (i := 3) rfl
    have xf0 := hc1.frozen 0
    have xf1 := hc1.frozen 1
    have xf2 := hc1.frozen 2
    have xf3 := hc1.frozen 3
    have xl := hc1.lt
    have y0 : W1.cell? ⟨b3, 0, none⟩ = some (.int .i64 0) := hf1.cell' (i := 0) rfl
    have y1 : W1.cell? ⟨b3, 1, none⟩ = some (.int .i64 0) := hf1.cell' (i := 1) rfl
    have yf0 := hf1.frozen 0
    have yf1 := hf1.frozen 1
    have yl := hf1.lt
    have K := Lib.hid (And.intro hc1 (And.intro hf1 (And.intro (gr_call hb0 hb1) (And.intro hb2e hb3e))))
    clear h0 hb1 hc1 hf1 hb0 hcB hfB hb2e hb3e
    go_wp2_with (fail)
    go_region
    all_goals go_wp2_with (fail)
    all_goals
      obtain ⟨Z0, hZ0⟩ : ∃ Z, Z = (((((W1.setCell ⟨b2, 0, none⟩ (.int .i64 0)).setCell ⟨b2, 1, none⟩ (.int .i64 0)).setCell ⟨b2, 2, none⟩ (.slice none 0 0)).setCell ⟨b2, 3, none⟩ (.slice none 0 0)).setCell ⟨b3, 0, none⟩ (.int .i64 er)).setCell ⟨b3, 1, none⟩ (.int .i64 a) := ⟨_, rfl⟩
      rw [← hZ0]
      obtain ⟨z1, z2, z3, z4⟩ := par_six K.out.1 K.out.2.1 hn23 (.int .i64 0) (.int .i64 0) (.slice none 0 0) (.slice none 0 0) (.int .i64 er) (.int .i64 a) hZ0
      have zb : Below w.heap.size w ((Z0.alloc (.cells #[.int .i64 er, .int .i64 a] 33)).drew) := gr_drew (gr_alloc (z4 _ _ (by have := K.out.2.2.2.1; omega) (by have := K.out.2.2.2.2; omega) K.out.2.2.1) _)
      have zc : Blk ((Z0.alloc (.cells #[.int .i64 er, .int .i64 a] 33)).drew) b2 27 #[.int .i64 0, .int .i64 0, .slice none 0 0, .slice none 0 0] := (z1.alloc _).drew
      have zf : Blk ((Z0.alloc (.cells #[.int .i64 er, .int .i64 a] 33)).drew) b3 33 #[.int .i64 er, .int .i64 a] := (z2.alloc _).drew
      have zk : ∀ k t cs, Blk W1 k t cs → k ≠ b2 → k ≠ b3 → Blk ((Z0.alloc (.cells #[.int .i64 er, .int .i64 a] 33)).drew) k t cs := fun k t cs h h2 h3 => ((z3 k t cs h h2 h3).alloc _).drew
      clear hZ0 z1 z2 z3 z4
      generalize (Z0.alloc (.cells #[.int .i64 er, .int .i64 a] 33)).drew = Z at zb zc zf zk ⊢
      have r0 : Z.cell? ⟨b2, 0, none⟩ = some (.int .i64 0) := zc.cell' (i := 0) rfl
      have r1 : Z.cell? ⟨b2, 1, none⟩ = some (.int .i64 0) := zc.cell' (i := 1) rfl
      have r2 : Z.cell? ⟨b2, 2, none⟩ = some (.slice none 0 0) := zc.cell' (i := 2) rfl
      have r3 : Z.cell? ⟨b2, 3, none⟩ = some (.slice none 0 0) := zc.cell' (i := 3) rfl
      have s0 : Z.cell? ⟨b3, 0, none⟩ = some (.int .i64 er) := zf.cell' (i := 0) rfl
      have s1 : Z.cell? ⟨b3, 1, none⟩ = some (.int .i64 a) := zf.cell' (i := 1) rfl
      refine bodyPost_ret (v := .tuple #[.agg #[.int .i64 0, .int .i64 0, .slice none 0 0, .slice none 0 0], .agg #[.int .i64 er, .int .i64 a]]) (by simp [results, Tryz.results11, go_sem, r0, r1, r2, r3, s0, s1]) rfl ?_
      rw [HP.out.1]
      exact ⟨_, rfl, CfIn.zero _, zb⟩
  | some s =>
    obtain ⟨g, rows, vw, d, r, cs, pl, n, u, B, L, rfl, hg, hmem, hB, hb1⟩ := hm
    have hc1 := hcB.call hb1
    have hf1 := hfB.call hb1
    have x0 : W1.cell? ⟨b2, 0, none⟩ = some (.int .i64 0) := hc1.cell' (i := 0) rfl
    have x1 : W1.cell? ⟨b2, 1, none⟩ = some (.int .i64 0) := hc1.cell' (i := 1) rfl
    have x2 : W1.cell? ⟨b2, 2, none⟩ = some (.slice none 0 0) := hc1.cell' (i := 2) rfl
    have x3 : W1.cell? ⟨b2, 3, none⟩ = some (.slice none 0 0) := hc1.cell' (i := 3) rfl
    have xf0 := hc1.frozen 0
    have xf1 := hc1.frozen 1
    have xf2 := hc1.frozen 2
    have xf3 := hc1.frozen 3
    have xl := hc1.lt
    have y0 : W1.cell? ⟨b3, 0, none⟩ = some (.int .i64 0) := hf1.cell' (i := 0) rfl
    have y1 : W1.cell? ⟨b3, 1, none⟩ = some (.int .i64 0) := hf1.cell' (i := 1) rfl
    have yf0 := hf1.frozen 0
    have yf1 := hf1.frozen 1
    have yl := hf1.lt
    have g6 : W1.cell? ⟨g, 6, none⟩ = some (.int .i64 s.c.cap) := hg.cell' (i := 6) rfl
    have g7 : W1.cell? ⟨g, 7, none⟩ = some (.int .i64 s.c.lim) := hg.cell' (i := 7) rfl
    have g8 : W1.cell? ⟨g, 8, none⟩ = some d := hg.cell' (i := 8) rfl
    have g9 : W1.cell? ⟨g, 9, none⟩ = some r := hg.cell' (i := 9) rfl
    have gl := hg.lt
    have hgb2 : b2 ≠ g := hc1.ne_ hg (by decide)
    have hgb3 : b3 ≠ g := hf1.ne_ hg (by decide)
    obtain ⟨dA, dc, rfl⟩ := hmem.dirs.choose_spec.1.slice
    obtain ⟨rA, rc, rfl⟩ := hmem.ros.choose_spec.1.slice
    have K := Lib.hid (And.intro hc1 (And.intro hf1 (And.intro (gr_call hb0 hb1) (And.intro hb2e (And.intro hb3e (And.intro hg (And.intro hmem hB)))))))
    clear hb1 hc1 hf1 hb0 hcB hfB hb2e hb3e hg hmem hB
    go_wp2_with (fail)
    ·
      obtain ⟨Z0, hZ0⟩ : ∃ Z, Z = (((((W1.setCell ⟨b2, 0, none⟩ (.int .i64 s.c.cap)).setCell ⟨b2, 1, none⟩ (.int .i64 s.c.lim)).setCell ⟨b2, 2, none⟩ (.slice dA s.c.dirs.length dc)).setCell ⟨b2, 3, none⟩ (.slice rA s.c.ros.length rc)).setCell ⟨b3, 0, none⟩ (.int .i64 0)).setCell ⟨b3, 1, none⟩ (.int .i64 0) := ⟨_, rfl⟩
      rw [← hZ0]
      obtain ⟨z1, z2, z3, z4⟩ := par_six K.out.1 K.out.2.1 hn23 (.int .i64 s.c.cap) (.int .i64 s.c.lim) (.slice dA s.c.dirs.length dc) (.slice rA s.c.ros.length rc) (.int .i64 0) (.int .i64 0) hZ0
      have zb : Below w.heap.size w ((Z0.alloc (.cells #[.int .i64 0, .int .i64 0] 33))) := gr_alloc (z4 _ _ (by have := K.out.2.2.2.1; omega) (by have := K.out.2.2.2.2.1; omega) K.out.2.2.1) _
      have zc : Blk ((Z0.alloc (.cells #[.int .i64 0, .int .i64 0] 33))) b2 27 #[.int .i64 s.c.cap, .int .i64 s.c.lim, .slice dA s.c.dirs.length dc, .slice rA s.c.ros.length rc] := z1.alloc _
      have zf : Blk ((Z0.alloc (.cells #[.int .i64 0, .int .i64 0] 33))) b3 33 #[.int .i64 0, .int .i64 0] := z2.alloc _
      have zk : ∀ k t cs, Blk W1 k t cs → k ≠ b2 → k ≠ b3 → Blk ((Z0.alloc (.cells #[.int .i64 0, .int .i64 0] 33))) k t cs := fun k t cs h h2 h3 => (z3 k t cs h h2 h3).alloc _
      clear hZ0 z1 z2 z3 z4
      generalize (Z0.alloc (.cells #[.int .i64 0, .int .i64 0] 33)) = Z at zb zc zf zk ⊢
      have r0 : Z.cell? ⟨b2, 0, none⟩ = some (.int .i64 s.c.cap) := zc.cell' (i := 0) rfl
      have r1 : Z.cell? ⟨b2, 1, none⟩ = some (.int .i64 s.c.lim) := zc.cell' (i := 1) rfl
      have r2 : Z.cell? ⟨b2, 2, none⟩ = some (.slice dA s.c.dirs.length dc) := zc.cell' (i := 2) rfl
      have r3 : Z.cell? ⟨b2, 3, none⟩ = some (.slice rA s.c.ros.length rc) := zc.cell' (i := 3) rfl
      have s0 : Z.cell? ⟨b3, 0, none⟩ = some (.int .i64 0) := zf.cell' (i := 0) rfl
      have s1 : Z.cell? ⟨b3, 1, none⟩ = some (.int .i64 0) := zf.cell' (i := 1) rfl
      refine bodyPost_ret (v := .tuple #[.agg #[.int .i64 s.c.cap, .int .i64 s.c.lim, .slice dA s.c.dirs.length dc, .slice rA s.c.ros.length rc], .agg #[.int .i64 0, .int .i64 0]]) (by simp [results, Tryz.results11, go_sem, r0, r1, r2, r3, s0, s1]) rfl ?_
      rw [HP.out.1]
      have hz := whole_zero HP.out.2.symm
      obtain ⟨rfl, rfl⟩ := Prod.mk.inj hz
      have hm := K.out.2.2.2.2.2.2.1.keep (W' := Z) (fun k t cs hk ht => zk k t cs hk (hk.ne_ K.out.1 (by rintro rfl; revert ht; unfold OwnT; decide)) (hk.ne_ K.out.2.1 (by rintro rfl; revert ht; unfold OwnT; decide)))
      exact ⟨_, rfl, ⟨_, _, rfl, hm.dirs.in_, hm.ros.in_⟩, zb⟩
set_option maxRecDepth 100000 in
set_option maxHeartbeats 8000000 in
theorem places_code (t : ByteArray) (ht : t.size ≤ 1000000) (w : World) (hE : Env w) : Calls Tryz.prog 12 #[.string t] w (PlaP w (wholeRd t)) := by
  have hE2 : Env (w.alloc (.cells #[.int .i64 0, .int .i64 0] 33)) := hE.below (gr_alloc (Below.refl _ _) _)
  have hwc := whole_code t ht _ hE2
  obtain ⟨res, hres⟩ : ∃ q, q = wholeRd t := ⟨_, rfl⟩
  rw [← hres] at hwc ⊢
  obtain ⟨post, hpost⟩ : ∃ p, p = PlaP w res := ⟨_, rfl⟩
  rw [← hpost]
  have HP := Lib.hid (And.intro hpost hres)
  clear hE hE2 hpost hres
  go_enter Tryz.func12, Tryz.ntmps12
  go_wp2_with (fail)
  refine hwc.mono ?_
  rintro e W1 hm
  clear hwc
  have hb0 : Below w.heap.size w (w.alloc (.cells #[.int .i64 0, .int .i64 0] 33)) := gr_alloc (Below.refl _ _) _
  have hfB : Blk (w.alloc (.cells #[.int .i64 0, .int .i64 0] 33)) w.heap.size 33 #[.int .i64 0, .int .i64 0] := Blk.new _ _ _
  generalize (w.alloc (.cells #[.int .i64 0, .int .i64 0] 33)) = w0 at hm hb0 hfB
  obtain ⟨b3, hb3e⟩ : ∃ b, b = w.heap.size := ⟨_, rfl⟩
  rw [← hb3e] at hfB ⊢
  obtain ⟨rv, er, a⟩ := res
  cases rv with
  | none =>
    obtain ⟨rfl, h0, hb1⟩ := hm
    have h0b : (er != 0) = true := bne_iff_ne.2 h0
    have hf1 := hfB.call hb1
    have y0 : W1.cell? ⟨b3, 0, none⟩ = some (.int .i64 0) := hf1.cell' (i := 0) rfl
    have y1 : W1.cell? ⟨b3, 1, none⟩ = some (.int .i64 0) := hf1.cell' (i := 1) rfl
    have yf0 := hf1.frozen 0
    have yf1 := hf1.frozen 1
    have yl := hf1.lt
    have K := Lib.hid (And.intro hf1 (And.intro (gr_call hb0 hb1) (And.intro hb3e h0)))
    clear h0 hb1 hf1 hb0 hfB hb3e
    go_wp2_with (fail)
    go_region
    all_goals go_wp2_with (fail)
    all_goals
      have zb : Below w.heap.size w ((((W1.setCell ⟨b3, 0, none⟩ (.int .i64 er)).setCell ⟨b3, 1, none⟩ (.int .i64 a)).alloc (.cells #[.int .i64 er, .int .i64 a] 33)).drew) := gr_drew (gr_alloc ((K.out.2.1.setCell (Nat.le_of_eq K.out.2.2.1.symm) _).setCell (Nat.le_of_eq K.out.2.2.1.symm) _) _)
      have zf : Blk ((((W1.setCell ⟨b3, 0, none⟩ (.int .i64 er)).setCell ⟨b3, 1, none⟩ (.int .i64 a)).alloc (.cells #[.int .i64 er, .int .i64 a] 33)).drew) b3 33 #[.int .i64 er, .int .i64 a] := (((K.out.1.set_ 0 (.int .i64 er)).set_ 1 (.int .i64 a)).alloc _).drew
      have zk : ∀ k t cs, Blk W1 k t cs → k ≠ b3 → Blk ((((W1.setCell ⟨b3, 0, none⟩ (.int .i64 er)).setCell ⟨b3, 1, none⟩ (.int .i64 a)).alloc (.cells #[.int .i64 er, .int .i64 a] 33)).drew) k t cs := fun k t cs h h3 => (((h.far (p := ⟨b3, 0, none⟩) h3 _).far (p := ⟨b3, 1, none⟩) h3 _).alloc _).drew
      generalize (((W1.setCell ⟨b3, 0, none⟩ (.int .i64 er)).setCell ⟨b3, 1, none⟩ (.int .i64 a)).alloc (.cells #[.int .i64 er, .int .i64 a] 33)).drew = Z at zb zf zk ⊢
      have s0 : Z.cell? ⟨b3, 0, none⟩ = some (.int .i64 er) := zf.cell' (i := 0) rfl
      have s1 : Z.cell? ⟨b3, 1, none⟩ = some (.int .i64 a) := zf.cell' (i := 1) rfl
      refine bodyPost_ret (v := .tuple #[.slice none 0 0, .agg #[.int .i64 er, .int .i64 a]]) (by simp [results, Tryz.results12, go_sem, s0, s1]) rfl ?_
      rw [HP.out.1]
      exact ⟨none, 0, rfl, (fun h => absurd h (by show ¬ 0 < 0; decide)), zb⟩
  | some s =>
    obtain ⟨g, rows, vw, d, r, cs, pl, n, u, B, L, rfl, hg, hmem, hB, hb1⟩ := hm
    have hf1 := hfB.call hb1
    have y0 : W1.cell? ⟨b3, 0, none⟩ = some (.int .i64 0) := hf1.cell' (i := 0) rfl
    have y1 : W1.cell? ⟨b3, 1, none⟩ = some (.int .i64 0) := hf1.cell' (i := 1) rfl
    have yf0 := hf1.frozen 0
    have yf1 := hf1.frozen 1
    have yl := hf1.lt
    obtain ⟨pA, pc, hpe⟩ := own_slice hmem.pl
    subst hpe
    have g11 : W1.cell? ⟨g, 11, none⟩ = some (.slice pA s.pl.length pc) := hg.cell' (i := 11) rfl
    have gl := hg.lt
    have hgb3 : b3 ≠ g := hf1.ne_ hg (by decide)
    have K := Lib.hid (And.intro hf1 (And.intro (gr_call hb0 hb1) (And.intro hb3e hmem.pl)))
    clear hb1 hf1 hb0 hfB hb3e hg hmem hB
    go_wp2_with (fail)
    ·
      have zb : Below w.heap.size w ((((W1.setCell ⟨b3, 0, none⟩ (.int .i64 0)).setCell ⟨b3, 1, none⟩ (.int .i64 0)).alloc (.cells #[.int .i64 0, .int .i64 0] 33))) := gr_alloc ((K.out.2.1.setCell (Nat.le_of_eq K.out.2.2.1.symm) _).setCell (Nat.le_of_eq K.out.2.2.1.symm) _) _
      have zf : Blk ((((W1.setCell ⟨b3, 0, none⟩ (.int .i64 0)).setCell ⟨b3, 1, none⟩ (.int .i64 0)).alloc (.cells #[.int .i64 0, .int .i64 0] 33))) b3 33 #[.int .i64 0, .int .i64 0] := ((K.out.1.set_ 0 (.int .i64 0)).set_ 1 (.int .i64 0)).alloc _
      have zk : ∀ k t cs, Blk W1 k t cs → k ≠ b3 → Blk ((((W1.setCell ⟨b3, 0, none⟩ (.int .i64 0)).setCell ⟨b3, 1, none⟩ (.int .i64 0)).alloc (.cells #[.int .i64 0, .int .i64 0] 33))) k t cs := fun k t cs h h3 => ((h.far (p := ⟨b3, 0, none⟩) h3 _).far (p := ⟨b3, 1, none⟩) h3 _).alloc _
      generalize (((W1.setCell ⟨b3, 0, none⟩ (.int .i64 0)).setCell ⟨b3, 1, none⟩ (.int .i64 0)).alloc (.cells #[.int .i64 0, .int .i64 0] 33)) = Z at zb zf zk ⊢
      have s0 : Z.cell? ⟨b3, 0, none⟩ = some (.int .i64 0) := zf.cell' (i := 0) rfl
      have s1 : Z.cell? ⟨b3, 1, none⟩ = some (.int .i64 0) := zf.cell' (i := 1) rfl
      refine bodyPost_ret (v := .tuple #[.slice pA s.pl.length pc, .agg #[.int .i64 0, .int .i64 0]]) (by simp [results, Tryz.results12, go_sem, s0, s1]) rfl ?_
      rw [HP.out.1]
      have hz := whole_zero HP.out.2.symm
      obtain ⟨rfl, rfl⟩ := Prod.mk.inj hz
      have hm := own_blks K.out.2.2.2 (W' := Z) (fun k cs hk => zk k _ cs hk (hk.ne_ K.out.1 (by decide)))
      obtain ⟨A, c, he, hA⟩ := own_intsAt (W := Z) (l := s.pl) hm
      cases he
      exact ⟨_, _, rfl, hA, zb⟩
end Go.Proofs.YthpcbaamkeiffaaGreatDoor
