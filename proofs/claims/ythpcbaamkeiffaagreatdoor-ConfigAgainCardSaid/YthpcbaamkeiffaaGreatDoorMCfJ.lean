/-
  config's reader in memory; waits and stands, walked; conditions: sizes.
-/
import Derived.BigQuiet
import Derived.Test.YthpcbaamkeiffaaGreatDoorMCfI
namespace Go.Proofs.YthpcbaamkeiffaaGreatDoor
open Go.RowKit Go.Shelf
set_option linter.unusedVariables false
set_option linter.unusedSimpArgs false

theorem str_lit (s : ByteArray) (l : List UInt8) : (s.toList == l) = decide (s = ⟨l.toArray⟩) := by
  rw [Lib.toList_data, Bool.eq_iff_iff, beq_iff_eq, decide_eq_true_eq]
  exact ⟨fun h => str_ext (by rw [h]), fun h => by rw [h]⟩

/-! What a reader owns. -/
def Aparts (us : List Value) : Prop := ∀ (i j : Nat) (a b : Value), us[i]? = some a → us[j]? = some b → i ≠ j → RowsApart a b
def CdsMem (W : World) (B L : Nat) (v : Value) (l : List Cd) : Prop := (∃ us, OwnU 68 5 cdC W B v l us) ∧ ∀ k, v.ownBlock = some k → k < L
def RusMem (W : World) (B L : Nat) (v : Value) (l : List Ru) : Prop := ∃ us, OwnU 66 14 ruC W B v l us ∧ Each (fun x u => CdsMem W B L u x.cds) l us
def DrsMem (W : World) (B L : Nat) (v : Value) (l : List Dr) : Prop := ∃ us, OwnU 48 3 drC W B v l us ∧ Each (fun x u => RusMem W B L u x.rus) l us ∧ Aparts us
def SegMem (W : World) (B : Nat) (v : Value) (l : List ByteArray) : Prop := W.ownsRow B 9 1 v l.length (txC l)
def RosMem (W : World) (B : Nat) (v : Value) (l : List Ro) : Prop := ∃ us, OwnU 70 3 roC W B v l us ∧ Each (fun x u => SegMem W B u x.seg) l us
def IntMem (W : World) (B : Nat) (v : Value) (l : List Int) : Prop := W.ownsRow B 3 1 v l.length (l.map (.int .i64))
structure RdMem (W : World) (B L : Nat) (s : Rd) (d r cs pl : Value) : Prop where
  dirs : DrsMem W B L d s.c.dirs
  ros : RosMem W B r s.c.ros
  cds : ∃ us, OwnU 68 5 cdC W L cs s.cds us
  pl : IntMem W B pl s.pl
  lb : B ≤ L
/-- The types of what a reader owns. -/
def OwnT (t : TypeId) : Prop := t = 48 ∨ t = 66 ∨ t = 68 ∨ t = 70 ∨ t = 9 ∨ t = 3
section
variable {W W' : World} {B L : Nat}
theorem CdsMem.keep {v : Value} {l : List Cd} (h : CdsMem W B L v l) (hk : ∀ k cs, v.ownBlock = some k → Blk W k 68 cs → Blk W' k 68 cs) : CdsMem W' B L v l := by
  obtain ⟨⟨us, h1⟩, h2⟩ := h
  exact ⟨⟨us, h1.keep hk⟩, h2⟩
theorem RusMem.keep {v : Value} {l : List Ru} (h : RusMem W B L v l) (hk : ∀ k cs, v.ownBlock = some k → Blk W k 66 cs → Blk W' k 66 cs) (hc : ∀ k cs, k < L → Blk W k 68 cs → Blk W' k 68 cs) : RusMem W' B L v l := by
  obtain ⟨us, h1, h2⟩ := h
  exact ⟨us, h1.keep hk, h2.imp fun x u _ h => h.keep fun k cs e hb => hc k cs (h.2 k e) hb⟩
theorem SegMem.keep {v : Value} {l : List ByteArray} (h : SegMem W B v l) (hk : ∀ k cs, Blk W k 9 cs → Blk W' k 9 cs) : SegMem W' B v l := own_blks h hk
theorem RosMem.keep {v : Value} {l : List Ro} (h : RosMem W B v l) (hk : ∀ k cs, v.ownBlock = some k → Blk W k 70 cs → Blk W' k 70 cs) (hs : ∀ k cs, Blk W k 9 cs → Blk W' k 9 cs) : RosMem W' B v l := by
  obtain ⟨us, h1, h2⟩ := h
  exact ⟨us, h1.keep hk, h2.imp fun x u _ h => h.keep hs⟩
theorem DrsMem.keep {v : Value} {l : List Dr} (h : DrsMem W B L v l) (hk : ∀ k t cs, (t = 48 ∨ t = 66) → Blk W k t cs → Blk W' k t cs) (hc : ∀ k cs, k < L → Blk W k 68 cs → Blk W' k 68 cs) : DrsMem W' B L v l := by
  obtain ⟨us, h1, h2, h3⟩ := h
  exact ⟨us, h1.keep fun k cs _ => hk k _ cs (.inl rfl), h2.imp fun x u _ h => h.keep (fun k cs _ => hk k _ cs (.inr rfl)) hc, h3⟩
theorem RdMem.keep {s : Rd} {d r cs pl : Value} (h : RdMem W B L s d r cs pl) (hk : ∀ k t cs, Blk W k t cs → OwnT t → Blk W' k t cs) : RdMem W' B L s d r cs pl := by
  obtain ⟨h1, h2, ⟨us, h3⟩, h4, h5⟩ := h
  exact ⟨h1.keep (fun k t cs ht hb => hk k t cs hb (by rcases ht with h | h; exact .inl h; exact .inr (.inl h))) (fun k cs _ hb => hk k _ cs hb (.inr (.inr (.inl rfl)))),
    h2.keep (fun k cs _ hb => hk k _ cs hb (.inr (.inr (.inr (.inl rfl))))) (fun k cs hb => hk k _ cs hb (.inr (.inr (.inr (.inr (.inl rfl)))))),
    ⟨us, h3.keep fun k cs _ hb => hk k _ cs hb (.inr (.inr (.inl rfl)))⟩, own_blks h4 (fun k cs hb => hk k _ cs hb (.inr (.inr (.inr (.inr (.inr rfl)))))), h5⟩
theorem RdMem.below {s : Rd} {d r cs pl : Value} (h : RdMem W B L s d r cs pl) (hb : Below W.heap.size W W') : RdMem W' B L s d r cs pl := h.keep fun _ _ _ hk _ => hk.call hb
theorem RdMem.grown {s : Rd} {d r cs pl : Value} (h : RdMem W B L s d r cs pl) {g : Nat} {T : TypeId} {c : Array Value} (hg : Blk W g T c) (hT : ¬ OwnT T) (hb : W.grownBy W' (some g)) : RdMem W' B L s d r cs pl :=
  h.keep fun k t cs hk ht => hk.grown hb (by
    intro e
    cases e
    exact hk.ne_ hg (by rintro rfl; exact hT ht) rfl)
end
theorem reader_not : ¬ OwnT 92 := by unfold OwnT; decide

/-! The reader's cells. -/
def rdV (rows words d r cs pl : Value) (n u : Nat) (fe fa cap lim : Int) : Array Value := #[rows, .int .i64 (n : Int), words, .int .i64 (u : Int), .int .i64 fe, .int .i64 fa, .int .i64 cap, .int .i64 lim, d, r, cs, pl]
/-- What is known when n rows are read. -/
structure RdAt (w0 : World) (rows : Value) (g : Nat) (W : World) (n u : Nat) (vw : Value) (s : Rd) (d r cs pl : Value) (L : Nat) : Prop where
  blk : Blk W g 92 (rdV rows vw d r cs pl n u 0 0 s.c.cap s.c.lim)
  mem : RdMem W w0.heap.size L s d r cs pl
  bel : Below w0.heap.size w0 W
  old : w0.heap.size ≤ g
  lw : L ≤ W.heap.size
theorem RdAt.below {w0 : World} {rows : Value} {g : Nat} {W W' : World} {n u : Nat} {vw : Value} {s : Rd} {d r cs pl : Value} {L : Nat} (h : RdAt w0 rows g W n u vw s d r cs pl L) (hb : Below W.heap.size W W') : RdAt w0 rows g W' n u vw s d r cs pl L :=
  ⟨h.blk.call hb, h.mem.below hb, gr_call h.bel hb, h.old, Nat.le_trans h.lw hb.size⟩
theorem RdAt.drewN {w0 : World} {rows : Value} {g : Nat} {W : World} {n u : Nat} {vw : Value} {s : Rd} {d r cs pl : Value} {L : Nat} (h : RdAt w0 rows g W n u vw s d r cs pl L) (q : Nat) : RdAt w0 rows g (W.drewN q) n u vw s d r cs pl L :=
  h.below (below_drewN (Below.refl _ _) _)

set_option maxRecDepth 100000 in
set_option maxHeartbeats 2000000 in
theorem waits_code (w0 : World) (rs : List Rw) (rows : Value) (hr : RowsIn w0 rows rs) (g n u : Nat) (vw : Value) (s : Rd) (d r cs pl : Value) (L : Nat) (W : World) (h : RdAt w0 rows g W n u vw s d r cs pl L) (hn : n ≤ rs.length) (hl : rs.length ≤ 1000000) (hw : ∀ x ∈ rs, x.w ≠ []) :
    Calls Tryz.prog 78 #[.pointer (some ⟨g, 0, none⟩)] W fun e W' => e = .returned (.bool (decide (0 < n ∧ (wdN (rs.getD (n - 1) ⟨0, []⟩) 0).t = sIf))) ∧ ∃ q, W' = W.drewN q := by
  obtain ⟨rA, rc, vs, rfl, _, hA, hvs, hin⟩ := hr
  have hg := h.blk
  have c0 : W.cell? ⟨g, 0, none⟩ = some (.slice rA rs.length rc) := hg.cell' (i := 0) rfl
  have c1 : W.cell? ⟨g, 1, none⟩ = some (.int .i64 (n : Int)) := hg.cell' (i := 1) rfl
  have hgl := hg.lt
  obtain ⟨rn, hrn⟩ : ∃ k, k = rs.length := ⟨_, rfl⟩
  have hAb := hA.below h.bel
  rw [← hrn] at hn hl hA c0 hAb
  cases n with
  | zero =>
    replace c1 : W.cell? ⟨g, 1, none⟩ = some (.int .i64 0) := c1
    clear h hg hA hvs hin hw hrn hAb
    go_enter Tryz.func78, Tryz.ntmps78
    go_wp2_with (fail)
    go_quiet (fail)
    go_wp2_with (fail)
    go_ret
    exact ⟨rfl, _, rfl⟩
  | succ m =>
    replace c1 : W.cell? ⟨g, 1, none⟩ = some (.int .i64 ((m : Int) + 1)) := c1
    obtain ⟨x, hx⟩ : ∃ x, rs[m]? = some x := ⟨_, List.getElem?_eq_getElem (by omega)⟩
    obtain ⟨v, hv⟩ : ∃ v, vs[m]? = some v := ⟨_, List.getElem?_eq_getElem (by omega)⟩
    obtain ⟨ab, ao, rfl, hab, e0, e1⟩ := cells_rw (by rw [hrn] at hAb; exact hAb) hx hv
    obtain ⟨wA, wc, rfl, _, hwA⟩ := (hin m x v hx hv).below h.bel
    have hw0 := List.length_pos_iff.2 (hw x (List.mem_of_getElem? hx))
    obtain ⟨y, hy⟩ : ∃ y, x.w[0]? = some y := ⟨_, List.getElem?_eq_getElem hw0⟩
    obtain ⟨bb, bo, rfl, hbb, f0, f1, f2⟩ := cells_wd hwA hy
    obtain ⟨nw, hnw⟩ : ∃ k, k = x.w.length := ⟨_, rfl⟩
    rw [← hnw] at hw0 e1
    have hg1 : rs.getD (m + 1 - 1) ⟨0, []⟩ = x := by rw [List.getD_eq_getElem?_getD, Nat.add_sub_cancel, hx]; rfl
    have hg2 : (wdN x 0).t = y.t := by unfold wdN; rw [List.getD_eq_getElem?_getD, hy]; rfl
    rw [hg1, hg2]
    have hi1 : (0 : Int) < (m : Int) + 1 := by omega
    have hi2 : (m : Int) < rn := by omega
    have hi3 : (m : Int) + 1 - 1 = (m : Int) := by omega
    have hi4 : (0 : Int) < nw := by omega
    clear h hg hA hvs hin hw hrn hAb hx hv hwA hy hnw hg1 hg2
    go_enter Tryz.func78, Tryz.ntmps78
    go_wp2_with (fail)
    go_quiet (fail)
    go_wp2_with (fail)
    go_ret
    refine ⟨?_, _, rfl⟩
    refine congrArg Ending.returned (congrArg Value.bool ?_)
    rw [str_lit]
    exact decide_eq_decide.2 ⟨fun h => ⟨by omega, h⟩, fun h => h.2⟩
theorem stands_eq (n : Nat) (last word : ByteArray) (c : Cf) : standsP n last word c =
    if (decide (n = 0) || decide (word = sCap)) = true then (decide (n = 0) && decide (word = sCap))
    else if (decide (n = 1) || decide (word = sLimit)) = true then (decide (n = 1) && decide (word = sLimit))
    else if (decide (word = sIf) || decide (word = sRule)) = true then (decide (0 < c.dirs.length) && decide (c.ros.length = 0))
    else if last = sIf then false
    else (decide (word = sRoute) || decide (c.ros.length = 0)) := by
  unfold standsP
  by_cases h1 : n = 0 <;> by_cases h2 : word = sCap <;> by_cases h3 : n = 1 <;> by_cases h4 : word = sLimit <;> by_cases h5 : word = sIf <;> by_cases h6 : word = sRule <;> by_cases h7 : c.dirs.length = 0 <;> by_cases h8 : c.ros.length = 0 <;>
    simp [h1, h2, h3, h4, h5, h6, h7, h8, Nat.pos_iff_ne_zero]
set_option maxRecDepth 100000 in
set_option maxHeartbeats 4000000 in
theorem stands_code (w0 : World) (rs : List Rw) (rows : Value) (hr : RowsIn w0 rows rs) (g n u : Nat) (vw : Value) (s : Rd) (d r cs pl : Value) (L : Nat) (W : World) (h : RdAt w0 rows g W n u vw s d r cs pl L) (hn : n ≤ rs.length) (hl : rs.length ≤ 1000000) (hw : ∀ x ∈ rs, x.w ≠ []) (word last : ByteArray)
    (hlast : 0 < n → last = (wdN (rs.getD (n - 1) ⟨0, []⟩) 0).t) :
    Calls Tryz.prog 101 #[.pointer (some ⟨g, 0, none⟩), .string word] W fun e W' => e = .returned (.bool (standsP n last word s.c)) ∧ ∃ q, W' = W.drewN q := by
  have hwt := waits_code w0 rs rows hr g n u vw s d r cs pl L W h hn hl hw
  obtain ⟨dA, dc, rfl⟩ := h.mem.dirs.choose_spec.1.slice
  obtain ⟨rA, rc, rfl⟩ := h.mem.ros.choose_spec.1.slice
  have c1 : W.cell? ⟨g, 1, none⟩ = some (.int .i64 (n : Int)) := h.blk.cell' (i := 1) rfl
  have c8 : W.cell? ⟨g, 8, none⟩ = some (.slice dA s.c.dirs.length dc) := h.blk.cell' (i := 8) rfl
  have c9 : W.cell? ⟨g, 9, none⟩ = some (.slice rA s.c.ros.length rc) := h.blk.cell' (i := 9) rfl
  have hgl := h.blk.lt
  obtain ⟨nd, hnd⟩ : ∃ k, k = s.c.dirs.length := ⟨_, rfl⟩
  obtain ⟨nr, hnr⟩ : ∃ k, k = s.c.ros.length := ⟨_, rfl⟩
  have hse := stands_eq n last word s.c
  rw [← hnd] at c8 hse
  rw [← hnr] at c9 hse
  obtain ⟨res, hres⟩ : ∃ b, b = standsP n last word s.c := ⟨_, rfl⟩
  rw [← hres] at hse ⊢
  obtain ⟨b1, hb1⟩ : ∃ b, decide (word = sCap) = b := ⟨_, rfl⟩
  obtain ⟨b2, hb2⟩ : ∃ b, decide (word = sLimit) = b := ⟨_, rfl⟩
  obtain ⟨b3, hb3⟩ : ∃ b, decide (word = sIf) = b := ⟨_, rfl⟩
  obtain ⟨b4, hb4⟩ : ∃ b, decide (word = sRule) = b := ⟨_, rfl⟩
  obtain ⟨b5, hb5⟩ : ∃ b, decide (word = sRoute) = b := ⟨_, rfl⟩
  have e1 : decide (word = ⟨#[99, 97, 112]⟩) = b1 := hb1
  have t1 : (word.toList == [99, 97, 112]) = b1 := (str_lit word [99, 97, 112]).trans hb1
  have e2 : decide (word = ⟨#[108, 105, 109, 105, 116]⟩) = b2 := hb2
  have t2 : (word.toList == [108, 105, 109, 105, 116]) = b2 := (str_lit word [108, 105, 109, 105, 116]).trans hb2
  have e3 : decide (word = ⟨#[105, 102]⟩) = b3 := hb3
  have t3 : (word.toList == [105, 102]) = b3 := (str_lit word [105, 102]).trans hb3
  have e4 : decide (word = ⟨#[114, 117, 108, 101]⟩) = b4 := hb4
  have t4 : (word.toList == [114, 117, 108, 101]) = b4 := (str_lit word [114, 117, 108, 101]).trans hb4
  have e5 : decide (word = ⟨#[114, 111, 117, 116, 101]⟩) = b5 := hb5
  have t5 : (word.toList == [114, 111, 117, 116, 101]) = b5 := (str_lit word [114, 111, 117, 116, 101]).trans hb5
  have hni : n ≤ 1000000 := by omega
  rw [hb1, hb2, hb3, hb4, hb5] at hse
  clear hb1 hb2 hb3 hb4 hb5 hnd hnr hres h
  have HS := Lib.hid (And.intro hse hlast)
  clear hse hlast
  by_cases k0 : n = 0
  · subst k0
    go_enter Tryz.func101, Tryz.ntmps101
    go_wp2_with (fail)
    go_ret
    refine ⟨?_, 0, rfl⟩
    rw [HS.out.1]
    first | rfl | (cases b1 <;> rfl)
  · have k0i : ((n : Int) == 0) = false := beq_eq_false_iff_ne.2 (by omega)
    have k0d : decide ((n : Int) = 0) = false := decide_eq_false (by omega)
    have k0e : decide (n = 0) = false := decide_eq_false k0
    cases b1 with
    | true =>
      go_enter Tryz.func101, Tryz.ntmps101
      go_wp2_with (fail)
      go_ret
      refine ⟨?_, 0, rfl⟩
      rw [HS.out.1, k0e]
      rfl
    | false =>
      by_cases k1 : n = 1
      · subst k1
        go_enter Tryz.func101, Tryz.ntmps101
        go_wp2_with (fail)
        go_ret
        refine ⟨?_, 0, rfl⟩
        rw [HS.out.1]
        first | rfl | (cases b2 <;> rfl)
      · have k1i : ((n : Int) == 1) = false := beq_eq_false_iff_ne.2 (by omega)
        have k1d : decide ((n : Int) = 1) = false := decide_eq_false (by omega)
        have k1e : decide (n = 1) = false := decide_eq_false k1
        cases b2 with
        | true =>
          go_enter Tryz.func101, Tryz.ntmps101
          go_wp2_with (fail)
          go_ret
          refine ⟨?_, 0, rfl⟩
          rw [HS.out.1, k0e, k1e]
          rfl
        | false =>
          have H2 := HS.out.1
          rw [k0e, k1e] at H2
          have H2 : res = if (b3 || b4) = true then (decide (0 < nd) && decide (nr = 0)) else if last = sIf then false else (b5 || decide (nr = 0)) := H2
          have H3 := Lib.hid (And.intro H2 HS.out.2)
          clear H2 HS k0e k1e
          by_cases k3 : (b3 || b4) = true
          · have hor : b3 = true ∨ (b3 = false ∧ b4 = true) := by cases b3 <;> cases b4 <;> simp_all
            clear k3
            have hb34 : (b3 || b4) = true := by rcases hor with h | ⟨_, h⟩ <;> rw [h]; · rfl
                                                exact Bool.or_true _
            have H4 := H3.out.1
            rw [if_pos hb34] at H4
            have H4 := Lib.hid H4
            clear hb34
            by_cases hd0 : 0 < nd
            · have hdi : (0 : Int) < nd := by omega
              have hdd : decide (0 < nd) = true := decide_eq_true hd0
              rcases hor with rfl | ⟨rfl, rfl⟩
              all_goals
                go_enter Tryz.func101, Tryz.ntmps101
                go_wp2_with (fail)
                go_ret
                refine ⟨?_, 0, rfl⟩
                rw [H4.out, hdd]
                refine congrArg Ending.returned (congrArg Value.bool ?_)
                rw [Bool.true_and, Bool.eq_iff_iff]
                simp
            · have hdi : ¬ (0 : Int) < nd := by omega
              have hdd : decide (0 < nd) = false := decide_eq_false hd0
              rcases hor with rfl | ⟨rfl, rfl⟩
              all_goals
                go_enter Tryz.func101, Tryz.ntmps101
                go_wp2_with (fail)
                go_ret
                refine ⟨?_, 0, rfl⟩
                first
                  | rfl
                  | (rw [H4.out, hdd]; rfl)
          · have hb3 : b3 = false := by cases b3; rfl; exact absurd rfl k3
            have hb4 : b4 = false := by cases b4; rfl; exact absurd (by rw [Bool.or_true]) k3
            subst hb3 hb4
            clear k3
            have hn0 : 0 < n := by omega
            have hla := H3.out.2 hn0
            have hwd : decide (0 < n ∧ (wdN (rs.getD (n - 1) ⟨0, []⟩) 0).t = sIf) = decide (last = sIf) := by
              rw [hla]
              exact decide_eq_decide.2 ⟨fun h => h.2, fun h => ⟨hn0, h⟩⟩
            rw [hwd] at hwt
            clear hwd hla hn0
            by_cases hli : last = sIf
            · have H4 := H3.out.1
              rw [if_neg (by decide), if_pos hli] at H4
              rw [decide_eq_true hli] at hwt
              have H4 := Lib.hid H4
              clear hli H3
              go_enter Tryz.func101, Tryz.ntmps101
              go_wp2_with (fail)
              refine hwt.mono ?_
              rintro e W2 ⟨rfl, q, rfl⟩
              clear hwt
              go_wp2_with (fail)
              go_ret
              exact ⟨by rw [H4.out]; rfl, _, rfl⟩
            · have H4 := H3.out.1
              rw [if_neg (by decide), if_neg hli] at H4
              rw [decide_eq_false hli] at hwt
              have H4 := Lib.hid H4
              clear hli H3
              cases b5 with
              | true =>
                go_enter Tryz.func101, Tryz.ntmps101
                go_wp2_with (fail)
                refine hwt.mono ?_
                rintro e W2 ⟨rfl, q, rfl⟩
                clear hwt
                go_wp2_with (fail)
                go_ret
                exact ⟨by rw [H4.out]; rfl, _, rfl⟩
              | false =>
                go_enter Tryz.func101, Tryz.ntmps101
                go_wp2_with (fail)
                refine hwt.mono ?_
                rintro e W2 ⟨rfl, q, rfl⟩
                clear hwt
                go_wp2_with (fail)
                go_ret
                refine ⟨?_, _, rfl⟩
                rw [H4.out]
                refine congrArg Ending.returned (congrArg Value.bool ?_)
                rw [Bool.false_or, Bool.eq_iff_iff]
                simp
end Go.Proofs.YthpcbaamkeiffaaGreatDoor
