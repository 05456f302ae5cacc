/-
  (*strings.Builder).WriteString, Len, String of a builder that the call has laid; conditions: lengths.
-/
import Derived.Test.YtpicenopiigfpaaDoorStrb
import Derived.Test.YtpicenopiigfpaaDoorSpl
import Derived.Test.YtpicenopiigfpaaDoorShelf
import Derived.Lib.AppendStr
namespace Go.Proofs.YtpicenopiigfpaaDoor
open Go.RowKit
set_option linter.unusedVariables false
set_option linter.unusedSimpArgs false

theorem strCells_mkB (l : List UInt8) : Lib.strCells (mkB l) = Lib.byteCells l := by
  unfold Lib.strCells Lib.byteCells
  first | rw [mkB_data] | (simp [mkB])
set_option maxHeartbeats 2000000 in
set_option maxRecDepth 100000 in
theorem Bld_WriteString (B b : Nat) (l m : List UInt8) (w : World) (h : Bld B b (Lib.byteCells l) w) (hlen : l.length + m.length ≤ 140737488355328) (hBw : B ≤ w.heap.size) :
    Calls Tryd.prog 38 #[.pointer (some ⟨b, 0, none⟩), .string (mkB m)] w fun e w' => e = .returned (.tuple #[.int .i64 (m.length : Int), .nilIface]) ∧ Bld B b (Lib.byteCells (l ++ m)) w' ∧ BelowX B b w w' ∧ Others 5 b w w' := by
  obtain ⟨i0, hi, hz0, hz1, hz2⟩ := info_parts infoByte
  obtain ⟨bs, hbs⟩ : ∃ bs, bs = Lib.byteCells l := ⟨_, rfl⟩
  have hbl : bs.length = l.length := by rw [hbs]; simp [Lib.byteCells]
  have hm : (mkB m).size = m.length := mkB_size m
  have hst := strCells_mkB m
  have ha : Lib.byteCells (l ++ m) = bs ++ Lib.strCells (mkB m) := by rw [Lib.byteCells_append, hst, hbs]
  have HA := Lib.hid ha
  rw [← hbs] at h
  clear ha hst hbs
  go_enter Tryd.func38, Tryd.ntmps38
  go_wp2_with (go_at_call 53; refine (Bld_copyCheck B b bs _ h).mono ?_)
  rintro e w1 ⟨rfl, ⟨v, hbk, hown⟩, hx1, ho1⟩
  rw [hbl] at hown
  obtain ⟨va, vc, rfl⟩ := own_slice hown
  have c0 := hbk.cell' (i := 0) (v := .pointer (some ⟨b, 0, none⟩)) rfl
  have c1 := hbk.cell' (i := 1) (v := .slice va l.length vc) rfl
  have hsz := hx1.size
  go_wp2_with (at_builtin; refine Lib.wpList_append_own_string _ rfl _ _ 65 9 rfl B 5 i0 Tryd.underlying65 Tryd.underlying9 hi hz0 hz1 hz2 _ _ _ rfl hown (mkB m) rfl ?c3 ?c4 ?c5 ?_)
  case c3 => unfold maxLen; omega
  case c4 => omega
  case c5 => omega
  intro v' w2 hown' hgrow _
  have hb2 := hbk.grown hgrow (own_blk_ne hown hbk (by decide))
  have d0 := hb2.cell' (i := 0) (v := .pointer (some ⟨b, 0, none⟩)) rfl
  have d1 := hb2.cell' (i := 1) (v := .slice va l.length vc) rfl
  have f1 := hb2.frozen 1
  obtain ⟨vb, vd, rfl⟩ := own_slice hown'
  have hX := hx1.grown hgrow (by omega) (fun k hk => (hown.lt k hk).1)
  have hO := ho1.grown hown hgrow
  go_wp2
  go_ret2
  refine ⟨by first | rfl | rw [hm], ⟨_, _, .inr rfl, hb2.set_ 1 _, ?_⟩, hX.setCell (.inl rfl) _, hO.setCell rfl _⟩
  rw [HA.out, List.length_append, Lib.strCells_length, hbl]
  exact own_setCell hown' hb2 (by decide) _
theorem Bld_Len (B b : Nat) (l : List UInt8) (w : World) (h : Bld B b (Lib.byteCells l) w) (hb : B ≤ b) :
    Calls Tryd.prog 36 #[.pointer (some ⟨b, 0, none⟩)] w fun e w' => e = .returned (.int .i64 (l.length : Int)) ∧ w' = w := by
  have h1 := Tryd.Builder_Len B b (Lib.byteCells l) w (h.isBuilder (Nat.le_refl _) hb)
  have e : (Lib.byteCells l).length = l.length := by simp [Lib.byteCells]
  rw [e] at h1
  exact h1
theorem Bld_String (B b : Nat) (l : List UInt8) (w : World) (h : Bld B b (Lib.byteCells l) w) (hb : B ≤ b) (hBw : B ≤ w.heap.size) :
    Calls Tryd.prog 39 #[.pointer (some ⟨b, 0, none⟩)] w fun e w' => e = .returned (.string (mkB l)) ∧ Below B w w' :=
  Tryd.Builder_String_any B b l w (h.isBuilder (Nat.le_refl _) hb) hBw
end Go.Proofs.YtpicenopiigfpaaDoor
