/-
  names, walked; no condition.
-/
import Derived.Test.YtlipjagdlpkjpaaDoorFtMk
import Derived.Test.YtlipjagdlpkjpaaDoorFtR
namespace Go.Proofs.YtlipjagdlpkjpaaDoor
open Go.RowKit
set_option linter.unusedVariables false
set_option linter.unusedSimpArgs false

def NmRel (s : ByteArray) (w : World) (n : Nat) (v fr iv : Value) (wr : World) : Prop :=
  ∃ (k : Nat) (l : List ByteArray) (a : Nat), n + k = s.size - 1 ∧ iv = .int .i64 ((k : Int) + 1) ∧ fr = .int .i64 (a : Int) ∧ namesK s k = (l, a) ∧ wr.ownsRow w.heap.size 9 1 v l.length (l.map .string) ∧ Below w.heap.size w wr

set_option maxRecDepth 100000 in
set_option maxHeartbeats 2000000 in
theorem lnames (s : ByteArray) (hs : s.size ≤ 1000000) (w : World) :
    Calls Tryd.prog 28 #[.string s] w fun e W' => ∃ v, e = .returned v ∧ W'.ownsRow w.heap.size 9 1 v (namesP s).length ((namesP s).map .string) ∧ Below w.heap.size w W' := by
  obtain ⟨i0, hi, hz0, hz1, hz2⟩ := info_parts infoStr
  go_enter Tryd.func28, Tryd.ntmps28
  go_wp2_with (fail)
  go_loopg [3, 4, 5] (s.size - 1) (fun n v fr iv wr => NmRel s w n v fr iv wr)
  case atStart => exact ⟨0, [], 1, by omega, rfl, rfl, rfl, World.ownsRow_nil _ _ _ _, Below.refl _ _⟩
  case round =>
    obtain ⟨k, l, a, hk, rfl, rfl, hn, hown, hbel⟩ := hrel
    have hle := names_le s k
    rw [hn] at hle
    obtain ⟨hle1, hle2, hle3⟩ := hle
    simp only at hle1 hle2 hle3
    obtain ⟨va, vc, rfl⟩ := own_slice hown
    have hsz := hbel.size
    by_cases hlt : k + 1 < s.size
    · have hlti : (k : Int) + 1 < (s.size : Int) := by omega
      obtain ⟨c, hc⟩ : ∃ c, c = byS s (k + 1) := ⟨_, rfl⟩
      have e1 := fun h' => get_byS s (k + 1) h'
      simp only [← hc] at e1
      obtain ⟨p, hp⟩ : ∃ p, p = s.extract a (k + 1) := ⟨_, rfl⟩
      have hsl : ∀ W : World, (Instr.slice 9 (.string s) (some (.int .i64 (a : Int))) (some (.int .i64 ((k : Int) + 1))) none).run Tryd.prog W = .ok (.string p) W := fun W => by
        rw [run_slice_string_if _ _ _ _ _ _ _ Tryd.underlying9, if_pos (by omega), if_pos (by omega), hp, show ((k : Int) + 1).toNat = k + 1 by omega, show ((a : Int)).toNat = a by omega]
      have H := Lib.hid (And.intro hc (And.intro hp (And.intro hn hbel)))
      clear hc hp hn hbel
      have hcase : c = 44 ∨ (c ≠ 44 ∧ c = 93) ∨ (c ≠ 44 ∧ c ≠ 93) := by omega
      rcases hcase with rfl | ⟨h4, rfl⟩ | ⟨h4, h9⟩
      rotate_left 2
      · have HX := Lib.hid (And.intro h4 h9)
        have q1 : ((c : Int) == 44) = false := beq_eq_false_iff_ne.2 (by omega)
        have q2 : ((c : Int) == 93) = false := beq_eq_false_iff_ne.2 (by omega)
        have HO := Lib.hid hown
        clear hown h4 h9
        go_wp2_with (fail)
        go_roundg (s.size - 1 - (k + 1))
        case measure => omega
        case rel => exact ⟨k + 1, l, a, by omega, by go_num, rfl, by rw [names_miss (by rw [← H.out.1]; exact fun h => h.elim HX.out.1 HX.out.2)]; exact H.out.2.2.1, HO.out, H.out.2.2.2⟩
      all_goals
        have HX : Hid (byS s (k + 1) = 44 ∨ byS s (k + 1) = 93) := Lib.hid (by rw [← H.out.1]; first | exact .inl rfl | exact .inr rfl)
        (try clear h4)
        go_wp2_with (at_builtin; refine wpList_append_own _ rfl _ _ 40 rfl w.heap.size 9 i0 (.string ⟨#[]⟩) 1 16 Tryd.underlying40 hi hz0 hz1 hz2 rfl (by decide) _ _ _ rfl (hown.alloc _) ⟨wr.heap.size, 0, none⟩ 1 1 [.string p] rfl rfl (one_new rfl _ _) (one_str _) (by unfold maxLen; omega) (by omega) (by simp; omega) ?_)
        intro v' w2 hown' hgrow _
        have hb2 := (H.out.2.2.2.alloc hsz (.cells #[.string p] 9)).grown hgrow (by simp; omega) (fun q hq => (hown.lt q hq).1)
        have K := Lib.hid (And.intro hown' hb2)
        clear hown hown' hgrow hb2
        go_wp2_with (fail)
        go_roundg (s.size - 1 - (k + 1))
        case measure => omega
        case rel =>
          refine ⟨k + 1, l ++ [p], k + 2, by omega, by go_num, by go_num, ?_, ?_, K.out.2⟩
          · rw [names_hit HX.out, H.out.2.2.1, H.out.2.1]
          · rw [List.length_append, List.map_append]
            exact K.out.1
    · have hlti : ¬ (k : Int) + 1 < (s.size : Int) := by omega
      have he : namesP s = l := by unfold namesP; rw [show s.size - 1 = k by omega, hn]
      have H := Lib.hid (And.intro he (And.intro hown hbel))
      clear he hown hbel hn
      go_wp2_with (fail)
      go_ret
      exact ⟨_, rfl, by rw [H.out.1]; exact H.out.2.1, H.out.2.2⟩
end Go.Proofs.YtlipjagdlpkjpaaDoor
