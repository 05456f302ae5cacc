/-
  (*strings.Builder).copyCheck, WriteByte and WriteString at this program, whose Builder cannot have been copied (the branch that panics is none here); condition: the new length takes at most 2^47 bytes.
  (*strings.Builder).WriteString, Len, String of a builder that the call has laid; conditions: lengths.
  row.Bare, walked: a string that is written as it is; condition: strings of at most 1000000000 bytes.
  row.Write, walked: how a word is written; condition: strings of at most 100000000 bytes.
-/
import Derived.WalkSpells
import Derived.WalkLawsBesides
import Derived.Lib.Builder
import Derived.Lib.AppendStr
import Derived.Lib.ConvBytes
import Derived.Lib.AtoiErrMem
import Derived.BigRegion
import Derived.Test.YthpcbaamkeiffaaGreatDoorProg
import Derived.Test.YthpcbaamkeiffaaGreatDoorMRwFn
import Derived.Test.YthpcbaamkeiffaaGreatDoorMInw
import Derived.Test.YthpcbaamkeiffaaGreatDoorMShelf
import Derived.Test.YthpcbaamkeiffaaGreatDoorMRwQt
namespace Go.Proofs.YthpcbaamkeiffaaGreatDoor
open Go.RowKit

theorem sizeBuilder : (Tryz.prog.info? 125).map (fun i => i.size) = some 2 := by kernel_rfl
theorem liesBuilder : liesAt Tryz.prog Tryz.prog.depth 125 (2 / Tryz.prog.cellsOf 125) 0 125 1 = true := by kernel_rfl

set_option maxHeartbeats 1000000 in
set_option maxRecDepth 100000 in
theorem Builder_copyCheck_used (b : Nat) (w : World) (h0 : w.cell? ⟨b, 0, none⟩ = some (.pointer (some ⟨b, 0, none⟩))) :
    Calls Tryz.prog 95 #[.pointer (some ⟨b, 0, none⟩)] w fun e w' => e = .returned (.tuple #[]) ∧ w' = w := by
  obtain ⟨j, hj, _⟩ := Option.map_eq_some_iff.1 sizeBuilder
  go_enter Tryz.func95, Tryz.ntmps95
  go_wp2
  rw [Lib.run_neq_ptr_same w _ Tryz.underlying122 hj]
  go_wp2
  go_end0
  exact ⟨rfl, rfl⟩

set_option maxHeartbeats 1000000 in
set_option maxRecDepth 100000 in
theorem Builder_copyCheck_fresh (b : Nat) (w : World) (h0 : w.cell? ⟨b, 0, none⟩ = some (.pointer none)) (hsh : w.shape? b = some (125, 2)) (hfz : w.frozen? ⟨b, 0, none⟩ = false) :
    Calls Tryz.prog 95 #[.pointer (some ⟨b, 0, none⟩)] w fun e w' => e = .returned (.tuple #[]) ∧ w' = w.setCell ⟨b, 0, none⟩ (.pointer (some ⟨b, 0, none⟩)) := by
  obtain ⟨j, hj, hjs⟩ := Option.map_eq_some_iff.1 sizeBuilder
  go_enter Tryz.func95, Tryz.ntmps95
  go_wp2
  rw [Lib.run_to_unsafe w ⟨b, 0, none⟩ Tryz.underlying122 Tryz.underlying177 hj (by rw [hjs]; decide) hsh (Nat.zero_lt_succ 1)]
  simp only [Result.andThen]
  rw [Oper.upon_value]
  go_wp2
  rw [run_callFunc_extern Tryz.func117 (by kernel_rfl) (by kernel_rfl) (by kernel_rfl) (e := Extern.AbiNoEscape.same) (by kernel_rfl)]
  rw [Lib.run_noEscape]
  simp only [Result.andThen]
  rw [Oper.upon_value]
  go_wp2
  rw [Lib.run_from_unsafe w ⟨b, 0, none⟩ Tryz.underlying177 Tryz.underlying122 hj hsh liesBuilder]
  simp only [Result.andThen]
  rw [Oper.upon_value]
  go_wp2
  go_end0
  exact ⟨rfl, rfl⟩

/-- A builder in block b, whose bytes are bs; its row lies from B on. -/
def Bld (B b : Nat) (bs : List Value) (w : World) : Prop :=
  ∃ p v, (p = .pointer none ∨ p = .pointer (some ⟨b, 0, none⟩)) ∧ Blk w b 125 #[p, v] ∧ w.ownsRow B 5 1 v bs.length bs

theorem Bld.isBuilder {B b B' : Nat} {bs : List Value} {w : World} (h : Bld B b bs w) (h1 : B' ≤ B) (h2 : B' ≤ b) : Lib.IsBuilder 125 5 B' b bs w := by
  obtain ⟨p, v, hp, hb, hown⟩ := h
  have hne : v.ownBlock ≠ some b := fun e => own_blk_ne hown hb (by decide) e.symm
  rcases hp with rfl | rfl
  · exact .inl ⟨h2, v, hb, own_weaken hown h1, hne⟩
  · exact .inr ⟨h2, v, hb, own_weaken hown h1, hne⟩
theorem Bld.fresh {B b : Nat} {w : World} (h : Blk w b 125 #[.pointer none, .slice none 0 0]) : Bld B b [] w :=
  ⟨_, _, .inl rfl, h, World.ownsRow_nil _ _ _ _⟩
theorem Bld.lt {B b : Nat} {bs : List Value} {w : World} (h : Bld B b bs w) : b < w.heap.size := by
  obtain ⟨p, v, hp, hb, hown⟩ := h
  exact hb.lt
theorem Bld.drewN {B b : Nat} {bs : List Value} {w : World} (h : Bld B b bs w) (n : Nat) : Bld B b bs (w.drewN n) := h
theorem Bld.alloc {B b : Nat} {bs : List Value} {w : World} (h : Bld B b bs w) (o : Obj) : Bld B b bs (w.alloc o) := by
  obtain ⟨p, v, hp, hb, hown⟩ := h
  exact ⟨p, v, hp, hb.alloc o, hown.alloc o⟩
theorem Bld.below {B b : Nat} {bs : List Value} {w w' : World} (h : Bld B b bs w) (hb : Below w.heap.size w w') : Bld B b bs w' := by
  obtain ⟨p, v, hp, hbk, hown⟩ := h
  exact ⟨p, v, hp, hbk.below hb hbk.lt, own_below hown hb (Nat.le_refl _)⟩

/-- Behind copyCheck the builder holds its own address; its bytes are as they were. -/
theorem Bld_copyCheck (B b : Nat) (bs : List Value) (w : World) (h : Bld B b bs w) :
    Calls Tryz.prog 95 #[.pointer (some ⟨b, 0, none⟩)] w fun e w' => e = .returned (.tuple #[]) ∧ (∃ v, Blk w' b 125 #[.pointer (some ⟨b, 0, none⟩), v] ∧ w'.ownsRow B 5 1 v bs.length bs) ∧ BelowX B b w w' ∧ Others 5 b w w' := by
  obtain ⟨p, v, hp, hb, hown⟩ := h
  rcases hp with rfl | rfl
  · refine (Builder_copyCheck_fresh b w (hb.cell' rfl) (by unfold Blk at hb; simp [World.shape?, hb]) (hb.frozen 0)).mono ?_
    rintro e w' ⟨rfl, rfl⟩
    exact ⟨rfl, ⟨v, hb.set_ 0 _, own_setCell hown hb (by decide) _⟩, (BelowX.refl _ b _).setCell (p := ⟨b, 0, none⟩) (.inl rfl) _, (Others.refl _ b _).setCell (p := ⟨b, 0, none⟩) rfl _⟩
  · refine (Builder_copyCheck_used b w (hb.cell' rfl)).mono ?_
    rintro e w' ⟨rfl, rfl⟩
    exact ⟨rfl, ⟨v, hb, hown⟩, BelowX.refl _ _ _, Others.refl _ _ _⟩

set_option maxHeartbeats 2000000 in
set_option maxRecDepth 100000 in
theorem Bld_WriteByte (B b : Nat) (bs : List Value) (c : Int) (w : World) (h : Bld B b bs w) (hlen : bs.length + 1 ≤ 140737488355328) (hBw : B ≤ w.heap.size) :
    Calls Tryz.prog 72 #[.pointer (some ⟨b, 0, none⟩), .int .u8 c] w fun e w' => e = .returned .nilIface ∧ Bld B b (bs ++ [.int .u8 c]) w' ∧ BelowX B b w w' ∧ Others 5 b w w' := by
  obtain ⟨i0, hi, hz0, hz1, hz2⟩ := info_parts infoByte
  go_enter Tryz.func72, Tryz.ntmps72
  go_wp2_with (go_at_call 95; refine (Bld_copyCheck B b bs _ h).mono ?_)
  rintro e w1 ⟨rfl, ⟨v, hbk, hown⟩, hx1, ho1⟩
  obtain ⟨va, vc, rfl⟩ := own_slice hown
  have c0 := hbk.cell' (i := 0) (v := .pointer (some ⟨b, 0, none⟩)) rfl
  have c1 := hbk.cell' (i := 1) (v := .slice va bs.length vc) rfl
  have hsz := hx1.size
  go_wp2_with (at_builtin; refine wpList_append_own _ rfl _ _ 123 rfl B 5 i0 (.int .u8 0) 1 1 Tryz.underlying123 hi hz0 hz1 hz2 rfl (by decide) _ _ _ rfl (hown.alloc _) ⟨w1.heap.size, 0, none⟩ 1 1 [.int .u8 c] rfl rfl ?c1 ?c2 ?c3 ?c4 ?c5 ?_)
  case c1 => exact one_new rfl _ _
  case c2 => exact one_int _ _
  case c3 => unfold maxLen; omega
  case c4 => omega
  case c5 => simp; omega
  intro v' w2 hown' hgrow _
  have ha := hbk.alloc (.cells #[.int .u8 c] 5)
  have hb2 := ha.grown hgrow (own_blk_ne (hown.alloc _) ha (by decide))
  have d0 := hb2.cell' (i := 0) (v := .pointer (some ⟨b, 0, none⟩)) rfl
  have d1 := hb2.cell' (i := 1) (v := .slice va bs.length vc) rfl
  have f1 := hb2.frozen 1
  obtain ⟨vb, vd, rfl⟩ := own_slice hown'
  have hX := (hx1.alloc (by omega) (.cells #[.int .u8 c] 5)).grown hgrow (by simp; omega) (fun k hk => (hown.lt k hk).1)
  have hO := (ho1.alloc (.cells #[.int .u8 c] 5)).grown (hown.alloc _) hgrow
  go_wp2
  go_ret
  refine ⟨rfl, ⟨_, _, .inr rfl, hb2.set_ 1 _, ?_⟩, hX.setCell (.inl rfl) _, hO.setCell rfl _⟩
  rw [List.length_append]
  exact own_setCell hown' hb2 (by decide) _
end Go.Proofs.YthpcbaamkeiffaaGreatDoor
namespace Go.Proofs.YthpcbaamkeiffaaGreatDoor
open Go.RowKit
set_option linter.unusedVariables false
set_option linter.unusedSimpArgs false

theorem strCells_mkB (l : List UInt8) : Lib.strCells (mkB l) = Lib.byteCells l := by
  unfold Lib.strCells Lib.byteCells
  first | rw [mkB_data] | (simp [mkB])
set_option maxHeartbeats 2000000 in
set_option maxRecDepth 100000 in
theorem Bld_WriteString (B b : Nat) (l m : List UInt8) (w : World) (h : Bld B b (Lib.byteCells l) w) (hlen : l.length + m.length ≤ 140737488355328) (hBw : B ≤ w.heap.size) :
    Calls Tryz.prog 73 #[.pointer (some ⟨b, 0, none⟩), .string (mkB m)] w fun e w' => e = .returned (.tuple #[.int .i64 (m.length : Int), .nilIface]) ∧ Bld B b (Lib.byteCells (l ++ m)) w' ∧ BelowX B b w w' ∧ Others 5 b w w' := by
  obtain ⟨i0, hi, hz0, hz1, hz2⟩ := info_parts infoByte
  obtain ⟨bs, hbs⟩ : ∃ bs, bs = Lib.byteCells l := ⟨_, rfl⟩
  have hbl : bs.length = l.length := by rw [hbs]; simp [Lib.byteCells]
  have hm : (mkB m).size = m.length := mkB_size m
  have hst := strCells_mkB m
  have ha : Lib.byteCells (l ++ m) = bs ++ Lib.strCells (mkB m) := by rw [Lib.byteCells_append, hst, hbs]
  have HA := Lib.hid ha
  rw [← hbs] at h
  clear ha hst hbs
  go_enter Tryz.func73, Tryz.ntmps73
  go_wp2_with (go_at_call 95; refine (Bld_copyCheck B b bs _ h).mono ?_)
  rintro e w1 ⟨rfl, ⟨v, hbk, hown⟩, hx1, ho1⟩
  rw [hbl] at hown
  obtain ⟨va, vc, rfl⟩ := own_slice hown
  have c0 := hbk.cell' (i := 0) (v := .pointer (some ⟨b, 0, none⟩)) rfl
  have c1 := hbk.cell' (i := 1) (v := .slice va l.length vc) rfl
  have hsz := hx1.size
  go_wp2_with (at_builtin; refine Lib.wpList_append_own_string _ rfl _ _ 123 9 rfl B 5 i0 Tryz.underlying123 Tryz.underlying9 hi hz0 hz1 hz2 _ _ _ rfl hown (mkB m) rfl ?c3 ?c4 ?c5 ?_)
  case c3 => unfold maxLen; omega
  case c4 => omega
  case c5 => omega
  intro v' w2 hown' hgrow _
  have hb2 := hbk.grown hgrow (own_blk_ne hown hbk (by decide))
  have d0 := hb2.cell' (i := 0) (v := .pointer (some ⟨b, 0, none⟩)) rfl
  have d1 := hb2.cell' (i := 1) (v := .slice va l.length vc) rfl
  have f1 := hb2.frozen 1
  obtain ⟨vb, vd, rfl⟩ := own_slice hown'
  have hX := hx1.grown hgrow (by omega) (fun k hk => (hown.lt k hk).1)
  have hO := ho1.grown hown hgrow
  go_wp2
  go_ret2
  refine ⟨by first | rfl | rw [hm], ⟨_, _, .inr rfl, hb2.set_ 1 _, ?_⟩, hX.setCell (.inl rfl) _, hO.setCell rfl _⟩
  rw [HA.out, List.length_append, Lib.strCells_length, hbl]
  exact own_setCell hown' hb2 (by decide) _
theorem Bld_Len (B b : Nat) (l : List UInt8) (w : World) (h : Bld B b (Lib.byteCells l) w) (hb : B ≤ b) :
    Calls Tryz.prog 71 #[.pointer (some ⟨b, 0, none⟩)] w fun e w' => e = .returned (.int .i64 (l.length : Int)) ∧ w' = w := by
  have h1 := Tryz.Builder_Len B b (Lib.byteCells l) w (h.isBuilder (Nat.le_refl _) hb)
  have e : (Lib.byteCells l).length = l.length := by simp [Lib.byteCells]
  rw [e] at h1
  exact h1
theorem Bld_String (B b : Nat) (l : List UInt8) (w : World) (h : Bld B b (Lib.byteCells l) w) (hb : B ≤ b) (hBw : B ≤ w.heap.size) :
    Calls Tryz.prog 75 #[.pointer (some ⟨b, 0, none⟩)] w fun e w' => e = .returned (.string (mkB l)) ∧ Below B w w' :=
  Tryz.Builder_String_any B b l w (h.isBuilder (Nat.le_refl _) hb) hBw
end Go.Proofs.YthpcbaamkeiffaaGreatDoor
namespace Go.Proofs.YthpcbaamkeiffaaGreatDoor
open Go.RowKit
set_option linter.unusedVariables false
set_option linter.unusedSimpArgs false

theorem barN_iff (l : List UInt8) : barN l = l.length ↔ l.all bareC = true := by
  induction l with
  | nil => exact ⟨fun _ => rfl, fun _ => rfl⟩
  | cons c t ih =>
    unfold barN
    rw [List.all_cons, List.length_cons]
    cases hb : bareC c
    · rw [if_neg (by decide)]
      exact ⟨fun h => by omega, fun h => by cases h⟩
    · rw [if_pos rfl, Bool.true_and, ← ih]; omega
set_option maxRecDepth 100000 in
set_option maxHeartbeats 2000000 in
theorem wBare (s : ByteArray) (w : World) (hs : s.size ≤ 1000000000) :
    Calls Tryz.prog 96 #[.string s] w fun e w' => e = .returned (.bool (bareW s.data.toList)) ∧ Below w.heap.size w w' := by
  have hsc : ScanAt (w.alloc (.cells #[.string s, .int .i64 ((0 : Nat) : Int)] 157)) w.heap.size 157 #[.string s, .int .i64 ((0 : Nat) : Int)] 0 := Blk.new w _ _
  have hba := wbare s w.heap.size 0 _ _ _ hs (Nat.zero_le _) rfl (by simp) hsc
  have hle := barN_size s (Nat.zero_le s.size)
  rw [List.drop_zero, Nat.zero_add] at hba hle
  have HB := Lib.hid hba
  clear hba hsc
  go_enter Tryz.func96, Tryz.ntmps96
  go_wp2_with (fail)
  refine HB.out.mono ?_
  rintro e W ⟨rfl, hsc, hgr⟩
  obtain ⟨c0, c1, f1, hl⟩ := hsc.facts rfl (by simp)
  have hbl : Below w.heap.size w W := ((Below.refl w.heap.size w).alloc (Nat.le_refl _) _).grown hgr (by simp) (by rintro k hk; cases hk; exact Nat.le_refl _)
  have hn : (decide (0 < barN s.data.toList) && endL (s.data.toList.drop (barN s.data.toList))) = true ∧ barN s.data.toList = s.size ∧ (∃ x, s.data.toList.head? = some x ∧ ((x.toNat : Int) != 35) = bareW s.data.toList) ∨
      bareW s.data.toList = false ∧ ((decide (0 < barN s.data.toList) && endL (s.data.toList.drop (barN s.data.toList))) = false ∨ (decide (0 < barN s.data.toList) && endL (s.data.toList.drop (barN s.data.toList))) = true ∧ ((barN s.data.toList : Int) == (s.size : Int)) = false) := by
    have hi := barN_iff s.data.toList
    rw [size_data] at hi
    by_cases hz : barN s.data.toList = s.size
    · rcases Nat.eq_zero_or_pos s.size with h0 | h0
      · refine .inr ⟨?_, .inl ?_⟩
        · have : s.data.toList = [] := List.length_eq_zero_iff.1 (by rw [size_data]; exact h0)
          rw [this]; rfl
        · rw [hz, h0]; rfl
      · refine .inl ⟨?_, hz, ?_⟩
        · rw [hz, decide_eq_true h0, drop_end s _ (Nat.le_refl _)]; rfl
        · have hall := hi.1 hz
          cases e : s.data.toList with
          | nil => have := congrArg List.length e; rw [size_data] at this; rw [List.length_nil] at this; omega
          | cons c t =>
            rw [e] at hall
            refine ⟨c, rfl, ?_⟩
            unfold bareW
            rw [hall, decide_eq_true (by simp), List.head?_cons]
            by_cases h35 : c = 35
            · subst h35; rfl
            · have h2 : c.toNat ≠ 35 := fun h => h35 (UInt8.toNat_inj.1 (by rw [h]; rfl))
              rw [decide_eq_true (by simpa using h35)]
              simp; omega
    · refine .inr ⟨?_, ?_⟩
      · have : s.data.toList.all bareC = false := by
          cases h : s.data.toList.all bareC
          · rfl
          · exact absurd (hi.2 h) hz
        unfold bareW
        rw [this]; simp
      · cases (decide (0 < barN s.data.toList) && endL (s.data.toList.drop (barN s.data.toList)))
        · exact .inl rfl
        · exact .inr ⟨rfl, beq_eq_false_iff_ne.2 (by omega)⟩
  obtain ⟨n, hbn⟩ : ∃ n, n = barN s.data.toList := ⟨_, rfl⟩
  unfold bareR at *
  simp only [List.drop_zero, Nat.zero_add] at *
  rw [← hbn] at c1 hle hn ⊢
  rcases hn with ⟨e1, e2, x, e3, e4⟩ | ⟨e0, e1 | ⟨e1, e2⟩⟩
  · have hx : ∃ h : 0 < s.size, s[0] = x := by
      cases e : s.data.toList with
      | nil => rw [e] at e3; cases e3
      | cons c t =>
        rw [e] at e3
        have h0 : 0 < s.size := by rw [← size_data, e]; simp
        refine ⟨h0, ?_⟩
        have := drop_at s 0 h0
        rw [List.drop_zero, e] at this
        have h1 := (List.cons.inj this).1
        rw [← h1]; exact Option.some.inj e3
    obtain ⟨h0, hx⟩ := hx
    have h0i : (0 : Int) < s.size := by omega
    have E := Lib.hid (And.intro e4 hbl)
    have heq : ((n : Int) == (s.size : Int)) = true := beq_iff_eq.2 (by omega)
    clear e2 e3 e4 hbl hbn hsc hgr
    have hxb := u8_bound x
    rw [e1]
    clear e1
    cases hb : ((x.toNat : Int) != 35)
    all_goals
      go_wp2_with (fail)
      go_ret
      exact ⟨by rw [← E.out.1, hb]; rfl, E.out.2⟩
  · have E := Lib.hid (And.intro e0 hbl)
    clear hbl hbn hsc hgr e0
    rw [e1]
    clear e1
    go_wp2_with (fail)
    go_ret
    exact ⟨by rw [E.out.1]; rfl, E.out.2⟩
  · have E := Lib.hid (And.intro e0 hbl)
    clear hbl hbn hsc hgr e0
    rw [e1]
    clear e1
    go_wp2_with (fail)
    go_ret
    exact ⟨by rw [E.out.1]; rfl, E.out.2⟩
end Go.Proofs.YthpcbaamkeiffaaGreatDoor
namespace Go.Proofs.YthpcbaamkeiffaaGreatDoor
open Go.RowKit
set_option linter.unusedVariables false
set_option linter.unusedSimpArgs false

theorem hexl_at : ∀ n : Nat, n < 16 → ([48, 49, 50, 51, 52, 53, 54, 55, 56, 57, 97, 98, 99, 100, 101, 102] : List UInt8)[n]? = some (hexl n) := by decide
theorem hexls_at (n : Nat) (h : n < 16) (h' : n < ({ data := #[48, 49, 50, 51, 52, 53, 54, 55, 56, 57, 97, 98, 99, 100, 101, 102] } : ByteArray).size) : ({ data := #[48, 49, 50, 51, 52, 53, 54, 55, 56, 57, 97, 98, 99, 100, 101, 102] } : ByteArray)[n]'h' = hexl n := by
  have e := hexl_at n h
  rw [List.getElem?_eq_some_iff] at e
  obtain ⟨_, e⟩ := e
  exact e
theorem and15 : ∀ c : UInt8, bits .and .u8 (c.toNat : Int) 15 = (c.toNat : Int) % 16 :=
  fun c => u8_all (p := fun c => bits .and .u8 (c.toNat : Int) 15 = (c.toNat : Int) % 16) (by decide +kernel) c
theorem many_new {w : World} {n : Nat} (hn : n = w.heap.size) (l : List Value) (e : TypeId) : ∀ j u, l[j]? = some u → (w.alloc (.cells l.toArray e)).cell? ((⟨n, 0, none⟩ : Addr).add j) = some u := by
  subst hn
  intro j u hj
  have h := (Blk.new w e l.toArray).cell j
  rw [Addr.add_lit, Nat.zero_add, h, List.getElem?_toArray]
  exact hj
theorem bytes_one (l : List UInt8) : ∀ u ∈ Lib.byteCells l, u.oneCell' = true := by
  intro u hu
  simp only [Lib.byteCells, List.mem_map] at hu
  obtain ⟨c, _, rfl⟩ := hu
  rfl
/-- A block that a conversion has laid. -/
def BytesAt (W : World) (kb : Nat) (s : ByteArray) : Prop := ∃ cs m, W.heap[kb]? = some (.cells cs 5 (m, m + 1)) ∧ ∀ j (h : j < s.size), cs[j]? = some (.int .u8 ((s[j]).toNat : Int))
theorem BytesAt.ne {W : World} {kb : Nat} {s : ByteArray} (h : BytesAt W kb s) {B size n : Nat} {e : TypeId} {v : Value} {xs : List Value} (ho : W.ownsRow B e size v n xs) : some kb ≠ v.ownBlock := by
  obtain ⟨cs, m, h1, _⟩ := h
  rcases ho.2 with ⟨e, _⟩ | ⟨g, cap, cur, e, _, hg, _⟩
  · rw [e]; intro h; cases h
  · rw [e]
    intro h
    cases h
    rw [h1] at hg
    cases hg
theorem BytesAt.at_ {W W' : World} {kb : Nat} {s : ByteArray} (h : BytesAt W kb s) (hb : W'.heap[kb]? = W.heap[kb]?) : BytesAt W' kb s := by
  obtain ⟨cs, m, h1, h2⟩ := h
  exact ⟨cs, m, hb.trans h1, h2⟩
theorem BytesAt.lt {W : World} {kb : Nat} {s : ByteArray} (h : BytesAt W kb s) : kb < W.heap.size := (Array.getElem?_eq_some_iff.1 h.choose_spec.choose_spec.1).1
theorem BytesAt.cell {W : World} {kb : Nat} {s : ByteArray} (h : BytesAt W kb s) {j : Nat} (hj : j < s.size) : W.cell? ⟨kb, j, none⟩ = some (.int .u8 ((s[j]).toNat : Int)) := by
  obtain ⟨cs, m, h1, h2⟩ := h
  exact (cell_of_row W kb j cs _ _ h1).trans (h2 j hj)
theorem BytesAt.new (w : World) (s : ByteArray) : BytesAt (Lib.bytesWorld w 5 s) w.heap.size s := by
  refine ⟨_, _, Lib.bytesWorld_at_new w 5 s, fun j h => ?_⟩
  have h1 := Lib.bytesWorld_cell w 5 s j h
  rw [cell_of_row _ _ j _ _ _ (Lib.bytesWorld_at_new w 5 s)] at h1
  rw [h1]
  have h2 : s.data.toList.getD j 0 = s[j] := by
    have := drop_at s j h
    rw [List.getD_eq_getElem?_getD, ← List.head?_drop, this]
    rfl
  rw [h2]
/-- The bytes that are written, and all that stays. -/
def WrSt (s : ByteArray) (w : World) (kb : Nat) (W : World) (l : List UInt8) (v : Value) : Prop :=
  W.ownsRow w.heap.size 5 1 v l.length (Lib.byteCells l) ∧ BytesAt W kb s ∧ Below w.heap.size w W
theorem WrSt.push {s : ByteArray} {w W W' : World} {kb : Nat} {l m : List UInt8} {v v' : Value} (h : WrSt s w kb W l v) (X : World) (hX : Below W.heap.size W X) (hg : X.grownBy W' v.ownBlock)
    (hown : W'.ownsRow w.heap.size 5 1 v' (l.length + m.length) (Lib.byteCells l ++ Lib.byteCells m)) : WrSt s w kb W' (l ++ m) v' := by
  have h2 := own_below h.1 hX (Nat.le_refl _)
  have hb := h.2.1.at_ (hX.block kb h.2.1.lt)
  refine ⟨by rw [Lib.byteCells_append, List.length_append]; exact hown, hb.at_ (hg.block kb hb.lt (hb.ne h2)), (gr_call h.2.2 hX).grown hg ?_ (fun k hk => (h2.lt k hk).1)⟩
  have := h.2.2.size; have := hX.size; omega

attribute [-go_sem] Builtin.append_
set_option maxRecDepth 100000 in
set_option maxHeartbeats 4000000 in
theorem wWrite (s : ByteArray) (w : World) (hs : s.size ≤ 100000000) :
    Calls Tryz.prog 74 #[.string s] w fun e w' => e = .returned (.string (mkB (wrW s.data.toList))) ∧ Below w.heap.size w w' := by
  obtain ⟨i0, hi, hz0, hz1, hz2⟩ := info_parts infoByte
  have hcv := fun W => Lib.run_convert_string_bytes (P := Tryz.prog) W 9 123 5 s (u := .string) Tryz.underlying9 Tryz.underlying123 Tryz.underlying5
  have hba := wBare s w (by omega)
  cases hb : bareW s.data.toList
  · have hw : wrW s.data.toList = 34 :: (wrQ s.data.toList ++ [34]) := by unfold wrW; rw [hb, if_neg (by decide)]
    rw [hb] at hba
    have HW := Lib.hid hw
    clear hw hb
    go_enter Tryz.func74, Tryz.ntmps74
    go_wp2_with (fail)
    refine hba.mono ?_
    rintro e W1 ⟨rfl, h1⟩
    have hk0 : WrSt s w (W1.heap.size + 1) (Lib.bytesWorld (W1.alloc (.cells #[.int .u8 34] 5)) 5 s) [34] (.slice (some ⟨W1.heap.size, 0, none⟩) 1 1) := by
      have ho := World.ownsRow_lit (base := W1.heap.size) (size := 1) (e := 5) W1 #[.int .u8 34] 1 (Nat.le_refl _) (by unfold maxLen; omega) rfl
      have hb2 : Below (W1.alloc (.cells #[.int .u8 34] 5)).heap.size (W1.alloc (.cells #[.int .u8 34] 5)) (Lib.bytesWorld (W1.alloc (.cells #[.int .u8 34] 5)) 5 s) := Lib.bytesWorld_below _ _ _
      refine ⟨own_weaken (own_below ho hb2 (Nat.le_refl _)) h1.size, ?_, gr_call (gr_alloc h1 _) hb2⟩
      have := BytesAt.new (W1.alloc (.cells #[.int .u8 34] 5)) s
      rw [World.size_alloc] at this
      exact this
    have K := Lib.hid hk0
    clear hk0 h1 hba
    go_wp2_with (fail)
    go_loopg [3, 13] s.size (fun n ov iv wr => ∃ k : Nat, n = s.size - k ∧ k ≤ s.size ∧ iv = .int .i64 (k : Int) ∧ WrSt s w (W1.heap.size + 1) wr (34 :: wrQ (s.data.toList.take k)) ov)
    case atStart => exact ⟨0, rfl, Nat.zero_le _, rfl, K.out⟩
    case round =>
      obtain ⟨k, hn, hk, rfl, hst⟩ := hrel
      obtain ⟨va, vc, rfl⟩ := own_slice hst.1
      have hle := wrQ_len (s.data.toList.take k)
      rw [List.length_take] at hle
      have hll : (34 :: wrQ (s.data.toList.take k)).length ≤ 400000002 := by rw [List.length_cons]; omega
      generalize hL : (34 :: wrQ (s.data.toList.take k)) = L at hst hll ⊢
      have hWz := hst.2.2.size
      by_cases hlt : k < s.size
      · have c0 := hst.2.1.cell hlt
        have hkl := hst.2.1.lt
        obtain ⟨x, hx⟩ : ∃ x, x = s[k] := ⟨_, rfl⟩
        have hxs : s[k] = x := hx.symm
        rw [hxs] at c0
        have hxb := u8_bound x
        have htk := take_at s k hlt
        rw [hxs] at htk
        have hLn : ∀ m, wr1 x = m → 34 :: wrQ (s.data.toList.take (k + 1)) = L ++ m := fun m hm => by rw [htk, wrQ_snoc, hm, ← hL]; rfl
        have A := Lib.hid (And.intro hn (And.intro hst hLn))
        clear hn hst hLn hx htk hL hle
        by_cases hq : x = 34 ∨ x = 92
        · have hw1 : wr1 x = [92, x] := by unfold wr1; rw [if_pos hq]
          have HL := Lib.hid (A.out.2.2 _ hw1)
          clear hw1
          rcases hq with rfl | rfl
          · go_wp2_with (at_builtin; refine wpList_append_own _ rfl _ _ 123 rfl w.heap.size 5 i0 (.int .u8 0) 1 1 Tryz.underlying123 hi hz0 hz1 hz2 rfl (by decide) _ _ _ rfl (A.out.2.1.1.alloc _) ⟨wr.heap.size, 0, none⟩ 2 2 (Lib.byteCells [92, 34]) rfl rfl ?c1 ?c2 ?c3 ?c4 ?c5 ?_)
            case c1 => exact many_new rfl _ _
            case c2 => exact bytes_one _
            case c3 => unfold maxLen; omega
            case c4 => omega
            case c5 => simp; omega
            intro v' W2 hown' hgrow _
            have S := Lib.hid (A.out.2.1.push _ (gr_alloc (Below.refl _ _) _) hgrow hown')
            obtain ⟨vb, vd, rfl⟩ := own_slice hown'
            clear hown' hgrow
            go_wp2_with (fail)
            go_roundg (s.size - (k + 1))
            case measure => have := A.out.1; omega
            case rel => exact ⟨k + 1, rfl, hlt, rfl, by rw [HL.out]; exact S.out⟩
          · go_wp2_with (at_builtin; refine wpList_append_own _ rfl _ _ 123 rfl w.heap.size 5 i0 (.int .u8 0) 1 1 Tryz.underlying123 hi hz0 hz1 hz2 rfl (by decide) _ _ _ rfl (A.out.2.1.1.alloc _) ⟨wr.heap.size, 0, none⟩ 2 2 (Lib.byteCells [92, 92]) rfl rfl ?c1 ?c2 ?c3 ?c4 ?c5 ?_)
            case c1 => exact many_new rfl _ _
            case c2 => exact bytes_one _
            case c3 => unfold maxLen; omega
            case c4 => omega
            case c5 => simp; omega
            intro v' W2 hown' hgrow _
            have S := Lib.hid (A.out.2.1.push _ (gr_alloc (Below.refl _ _) _) hgrow hown')
            obtain ⟨vb, vd, rfl⟩ := own_slice hown'
            clear hown' hgrow
            go_wp2_with (fail)
            go_roundg (s.size - (k + 1))
            case measure => have := A.out.1; omega
            case rel => exact ⟨k + 1, rfl, hlt, rfl, by rw [HL.out]; exact S.out⟩
        · by_cases hp : 32 ≤ x.toNat ∧ x.toNat ≤ 126
          · have hw1 : wr1 x = [x] := by unfold wr1; rw [if_neg hq, if_pos hp]
            have HL := Lib.hid (A.out.2.2 _ hw1)
            have b1 : ((x.toNat : Int) == 34) = false := beq_eq_false_iff_ne.2 (by have : x.toNat ≠ 34 := fun e => hq (.inl (UInt8.toNat_inj.1 (by rw [e]; rfl))); omega)
            have b2 : ((x.toNat : Int) == 92) = false := beq_eq_false_iff_ne.2 (by have : x.toNat ≠ 92 := fun e => hq (.inr (UInt8.toNat_inj.1 (by rw [e]; rfl))); omega)
            have b3 : (32 : Int) ≤ x.toNat := by omega
            have b4 : (x.toNat : Int) ≤ 126 := by omega
            clear hw1 hp hq
            go_wp2_with (at_builtin; refine wpList_append_own _ rfl _ _ 123 rfl w.heap.size 5 i0 (.int .u8 0) 1 1 Tryz.underlying123 hi hz0 hz1 hz2 rfl (by decide) _ _ _ rfl (A.out.2.1.1.alloc _) ⟨wr.heap.size, 0, none⟩ 1 1 (Lib.byteCells [x]) rfl rfl ?c1 ?c2 ?c3 ?c4 ?c5 ?_)
            case c1 => exact many_new rfl _ _
            case c2 => exact bytes_one _
            case c3 => unfold maxLen; omega
            case c4 => omega
            case c5 => simp; omega
            intro v' W2 hown' hgrow _
            have S := Lib.hid (A.out.2.1.push _ (gr_alloc (Below.refl _ _) _) hgrow hown')
            obtain ⟨vb, vd, rfl⟩ := own_slice hown'
            clear hown' hgrow
            go_wp2_with (fail)
            go_roundg (s.size - (k + 1))
            case measure => have := A.out.1; omega
            case rel => exact ⟨k + 1, rfl, hlt, rfl, by rw [HL.out]; exact S.out⟩
          · have hw1 : wr1 x = [92, 120, hexl (x.toNat / 16), hexl (x.toNat % 16)] := by unfold wr1; rw [if_neg hq, if_neg hp]
            have HL := Lib.hid (A.out.2.2 _ hw1)
            have b1 : ((x.toNat : Int) == 34) = false := beq_eq_false_iff_ne.2 (by have : x.toNat ≠ 34 := fun e => hq (.inl (UInt8.toNat_inj.1 (by rw [e]; rfl))); omega)
            have b2 : ((x.toNat : Int) == 92) = false := beq_eq_false_iff_ne.2 (by have : x.toNat ≠ 92 := fun e => hq (.inr (UInt8.toNat_inj.1 (by rw [e]; rfl))); omega)
            have e1 := fun h' => hexls_at (x.toNat / 16) (by omega) h'
            have e2 := fun h' => hexls_at (x.toNat % 16) (by omega) h'
            have hx0 : 0 ≤ (x.toNat : Int) := by omega
            have w1 : (x.toNat : Int) / 2 ^ 4 = (x.toNat : Int) / 16 := by rw [show (2 : Int) ^ 4 = 16 from rfl]
            have w1b : IntKind.u8.wrap ((x.toNat : Int) / 16) = (x.toNat : Int) / 16 := IntWalk.u8_in _ (by omega)
            have w2 := and15 x
            have w3 : (x.toNat : Int) / 16 < 16 := by omega
            have w4 : (x.toNat : Int) % 16 < 16 := by omega
            have w5 : 0 ≤ (x.toNat : Int) / 16 := by omega
            have w6 : 0 ≤ (x.toNat : Int) % 16 := by omega
            have w7 : ((x.toNat : Int) / 16).toNat = x.toNat / 16 := by omega
            have w8 : ((x.toNat : Int) % 16).toNat = x.toNat % 16 := by omega
            have hbl : Below wr.heap.size wr (wr.alloc (.cells #[.int .u8 92, .int .u8 120, .int .u8 ((hexl (x.toNat / 16)).toNat : Int), .int .u8 ((hexl (x.toNat % 16)).toNat : Int)] 5)).drew := (gr_alloc (Below.refl _ _) _).drew
            obtain ⟨v', W2, hrun, hown', hgrow, _⟩ := run_append_own (P := Tryz.prog) (wr.alloc (.cells #[.int .u8 92, .int .u8 120, .int .u8 ((hexl (x.toNat / 16)).toNat : Int), .int .u8 ((hexl (x.toNat % 16)).toNat : Int)] 5)).drew w.heap.size 123 123 5 i0 _ 1 1 Tryz.underlying123 hi hz0 hz1 hz2 rfl (by decide) _ _ _ (own_below A.out.2.1.1 hbl (Nat.le_refl _))
              ⟨wr.heap.size, 0, none⟩ 4 4 (Lib.byteCells [92, 120, hexl (x.toNat / 16), hexl (x.toNat % 16)]) rfl (many_new rfl (Lib.byteCells [92, 120, hexl (x.toNat / 16), hexl (x.toNat % 16)]) _) (bytes_one _) (by unfold maxLen; omega) (by omega) (by simp; omega)
            have S := Lib.hid (A.out.2.1.push _ hbl hgrow hown')
            obtain ⟨vb, vd, rfl⟩ := own_slice hown'
            clear hown' hgrow hbl hw1 hq
            by_cases hp2 : 32 ≤ x.toNat
            · have b3 : (32 : Int) ≤ x.toNat := by omega
              have b4 : ¬ (x.toNat : Int) ≤ 126 := by omega
              clear hp
              go_wp2_with (fail)
              go_region
              all_goals
                clear w1 w1b w2 w3 w4 w5 w6 w7 w8 e1 e2
                go_wp2_with (fail)
                go_roundg (s.size - (k + 1))
                case measure => have := A.out.1; omega
                case rel => exact ⟨k + 1, rfl, hlt, rfl, by rw [HL.out]; exact S.out⟩
            · have b3 : ¬ (32 : Int) ≤ x.toNat := by omega
              clear hp
              go_wp2_with (fail)
              go_region
              all_goals
                clear w1 w1b w2 w3 w4 w5 w6 w7 w8 e1 e2
                go_wp2_with (fail)
                go_roundg (s.size - (k + 1))
                case measure => have := A.out.1; omega
                case rel => exact ⟨k + 1, rfl, hlt, rfl, by rw [HL.out]; exact S.out⟩
      · have hke : k = s.size := by omega
        have ht : s.data.toList.take k = s.data.toList := List.take_of_length_le (by rw [size_data]; omega)
        have A := Lib.hid (And.intro hst (And.intro ht hL))
        clear hn hst hL ht
        go_wp2_with (at_builtin; refine wpList_append_own _ rfl _ _ 123 rfl w.heap.size 5 i0 (.int .u8 0) 1 1 Tryz.underlying123 hi hz0 hz1 hz2 rfl (by decide) _ _ _ rfl (A.out.1.1.alloc _) ⟨wr.heap.size, 0, none⟩ 1 1 (Lib.byteCells [34]) rfl rfl ?c1 ?c2 ?c3 ?c4 ?c5 ?_)
        case c1 => exact many_new rfl _ _
        case c2 => exact bytes_one _
        case c3 => unfold maxLen; omega
        case c4 => omega
        case c5 => simp; omega
        intro v' W2 hown' hgrow _
        have S := A.out.1.push _ (gr_alloc (Below.refl _ _) _) hgrow hown'
        have hcv2 := run_own_string (P := Tryz.prog) (w := W2) (src := 123) (dst := 9) Tryz.underlying123 Tryz.underlying5 Tryz.underlying9 rfl S.1
        have SS := Lib.hid S
        clear hown' hgrow S
        go_wp2_with (fail)
        go_ret
        refine ⟨?_, SS.out.2.2⟩
        rw [HW.out, ← A.out.2.2, A.out.2.1]; rfl
  · have hw : wrW s.data.toList = s.data.toList := by unfold wrW; rw [hb, if_pos rfl]
    rw [hb] at hba
    have HW := Lib.hid hw
    clear hw hb
    go_enter Tryz.func74, Tryz.ntmps74
    go_wp2_with (fail)
    refine hba.mono ?_
    rintro e W1 ⟨rfl, h1⟩
    go_wp2_with (fail)
    go_ret
    exact ⟨by rw [HW.out, mkB_of]; rfl, h1⟩
end Go.Proofs.YthpcbaamkeiffaaGreatDoor
