/-
  byteset.bytes: the iterator gives the bytes of a set, in order; condition: the library's table lies as it is laid.
-/
import Derived.Test.YtcfdadgijnmemaaDoorSetE
import Derived.Test.YtcfdadgijnmemaaDoorSetL
import Derived.RangeFuncNested
import Derived.RangeFuncBound
import Derived.RangeFuncCalls
import Derived.RangeFuncLeaves
import Derived.Shelf.Abstract
import Derived.Shelf.RegionOpen
import Derived.OwnWalkIn
import Derived.TacticsInMore
import Derived.LoopNIn
import Derived.LoopIn
import Derived.RangeFuncBox
import Derived.Maps.AppendAt
namespace Go.Proofs.YtcfdadgijnmemaaDoor
open Go.RowKit Go.Shelf
set_option linter.unusedVariables false
set_option linter.unusedSimpArgs false
attribute [local go_sem] Oper.semAt_some

def encB (x : Fin 256) : Array Value := #[.int .u8 (x.val : Int)]

set_option maxRecDepth 100000 in
set_option maxHeartbeats 2000000 in
theorem iter1 (n : Nat) (hn : 1 ≤ n) (l Bs n₀ : Nat) (h₀ : 0 < n₀) (p : Nat → Bool) (J Jx : List (Fin 256) → World → Prop)
    (hY : ∀ pre x W, J pre W → pre.length < 256 → YieldAt Fence.wide (n - 1) Tryd.prog l (encB x) W fun e W' =>
      (e = .returned (.bool true) ∧ J (pre ++ [x]) W' ∧ Below n₀ W W') ∨ (e = .returned (.bool false) ∧ Jx (pre ++ [x]) W'))
    (W : World) (hB : Blk W Bs 28 #[Value.int .u64 (setW p 0 : Int), .int .u64 (setW p 1 : Int), .int .u64 (setW p 2 : Int), .int .u64 (setW p 3 : Int)]) (hT : TabOk W) (h0 : J [] W) :
    CallsIn Fence.wide n Tryd.prog 53 #[.func (.yield l) #[] #[], .pointer (some ⟨Bs, 0, none⟩)] W fun e W' => (∃ v, e = .returned v) ∧
      ((∃ ys, ys = lstP p 256 ∧ J ys W') ∨ (∃ pre, (∃ k, k ≤ 256 ∧ pre = lstP p k) ∧ Jx pre W')) := by
  have HY := Lib.hid hY
  have a0 := hB.cell' (i := 0) rfl
  have a1 := hB.cell' (i := 1) rfl
  have a2 := hB.cell' (i := 2) rfl
  have a3 := hB.cell' (i := 3) rfl
  have HT := Lib.hid hT
  clear hY hB hT
  refine callsIn_of_wp Tryd.func53 rfl trivial ?_ rfl
  simp only [Tryd.ntmps53, List.size_toArray, List.length_cons, List.length_nil, Nat.reduceAdd, Nat.reduceSub, Array.replicate_succ, Array.replicate_zero, List.push_toArray, List.append_toArray, List.nil_append, List.cons_append]
  gi_wp2
  gi_loopw [6] (fun i wr => ∃ k : Nat, k ≤ 4 ∧ i = .int .i64 (k : Int) ∧ J (lstP p (64 * k)) wr ∧ Below n₀ W wr) (fun i _ => 4 - (intOf i).toNat)
  case atStart => exact ⟨0, by omega, rfl, h0, Below.refl _ _⟩
  case round =>
    obtain ⟨k, hk, rfl, hJ, hbel⟩ := hrel
    have HJ := Lib.hid (And.intro hJ hbel)
    clear hJ hbel
    by_cases hlt : k < 4
    · have hix := idx_run p k hlt
      have hkb : decide ((k : Int) < 4) = true := by simp; omega
      gi_wp2
      obtain ⟨wo, rfl⟩ : ∃ wo : World, wo = wr := ⟨_, rfl⟩
      gi_loopw [4] (fun x wi => ∃ m : Nat, 64 * k ≤ m ∧ m ≤ 64 * (k + 1) ∧ x = .int .u64 (setW (geP p m) k : Int) ∧ J (lstP p m) wi ∧ Below n₀ W wi) (fun x _ => (intOf x).toNat)
      case atStart => exact ⟨64 * k, by omega, by omega, by rw [geP_word0 _ _ _ (Nat.le_refl _)], HJ.out.1, HJ.out.2⟩
      case round =>
        obtain ⟨m, hm1, hm2, rfl, hJ, hbel⟩ := hrel
        have HI := Lib.hid (And.intro hJ hbel)
        clear hJ hbel
        by_cases hx : setW (geP p m) k = 0
        · have hxb : ((((setW (geP p m) k : Nat) : Int)) != 0) = false := by rw [hx]; rfl
          have HX := Lib.hid hx
          clear hx
          gi_wp2
          exact ⟨⟨k + 1, by omega, by go_num, by rw [lstP_to p m (64 * (k + 1)) hm2 (fun c h1 h2 => word_zero p m k HX.out c (by omega) h2 h1)]; exact HI.out.1, HI.out.2⟩, by simp [intOf]; omega⟩
        · obtain ⟨t, ht, ht64, hmt, hpt, hlow, hand, hless⟩ := word_next p m k hx
          have hxb : ((((setW (geP p m) k : Nat) : Int)) != 0) = true := by simp; omega
          have hblt : 64 * k + t < 256 := by omega
          obtain ⟨b, hb⟩ : ∃ b : Fin 256, b.val = 64 * k + t := ⟨⟨64 * k + t, hblt⟩, rfl⟩
          have hl : lstP p (64 * k + t + 1) = lstP p m ++ [b] := by
            rw [lstP_yes p _ hblt hpt, lstP_to p m (64 * k + t) hmt (fun c h1 h2 => hlow c (by omega) h1 h2)]
            congr 2
            exact Fin.ext hb.symm
          have hml : (lstP p m).length < 256 := by have := lstP_len p m; omega
          obtain ⟨fn, tmps, assign, body, hy, hR⟩ := HY.out (lstP p m) b wr HI.out.1 hml
          have ec : ((64 * k + t : Nat) : Int) = 64 * (k : Int) + (t : Int) := by omega
          simp only [encB, hb, ec] at hy
          clear ec
          have hw1 : IntKind.u8.wrap (64 * (k : Int) + (t : Int)) = 64 * (k : Int) + (t : Int) := by rw [IntKind.wrap_u8]; omega
          have HT' := HT.out.below HI.out.2 h₀
          have c1 := callsIn_wide (n := n - 1) |>.2 (tz64 _ (u64_bound (geP p m) k) hx wr HT')
          rw [ht] at c1
          have HF := Lib.hid (And.intro ht (And.intro hpt (And.intro hlow (And.intro hand (And.intro hl (And.intro hless hb))))))
          have C1 := Lib.hid c1
          clear HT' hx ht hpt hlow hand hl c1 hless hb
          gi_wp2_with (refine ⟨trivial, ?_⟩; gi_at_call 54; refine C1.out.mono ?_; rintro e w' ⟨rfl, rfl⟩)
          refine hR.mono ?_
          rintro e W3 (⟨rfl, hJ3, hk3⟩ | ⟨rfl, hJx3⟩)
          · have H3 := Lib.hid (And.intro hJ3 hk3)
            clear hJ3 hk3 hy hR
            have hbt : Hid (bits .and .u64 (setW (geP p m) k : Int) (IntKind.u64.wrap ((setW (geP p m) k : Int) - 1)) = (setW (geP p (64 * k + t + 1)) k : Int)) := by
              obtain ⟨f1, f2, f3, f4, f5, f6, f7⟩ := HF.out
              refine Lib.hid ?_
              have hb := u64_bound (geP p m) k
              rw [show (setW (geP p m) k : Int) - 1 = ((setW (geP p m) k - 1 : Nat) : Int) by omega, w64 _ (by omega), u64_and_nat _ _ hb (by omega), f4]
            gi_wp2
            go_roundw
            case rel =>
              obtain ⟨f1, f2, f3, f4, f5, f6, f7⟩ := HF.out
              exact ⟨64 * k + t + 1, by omega, by omega, by rw [hbt.out], by rw [f5]; exact H3.out.1, HI.out.2.trans H3.out.2⟩
            case measure =>
              obtain ⟨f1, f2, f3, f4, f5, f6, f7⟩ := HF.out
              rw [hbt.out]
              simp [intOf]
              omega
          · have H3 := Lib.hid hJx3
            clear hJx3 hy hR
            gi_wp2
            refine bodyPost_ret (results_none rfl _ _ _) rfl ?_
            obtain ⟨f1, f2, f3, f4, f5, f6, f7⟩ := HF.out
            exact ⟨⟨_, rfl⟩, .inr ⟨lstP p (64 * k + t + 1), ⟨_, by omega, rfl⟩, by rw [f5]; exact H3.out⟩⟩
    · obtain rfl : k = 4 := by omega
      gi_wp2
      go_end0
      exact ⟨⟨_, rfl⟩, .inl ⟨_, rfl, HJ.out.1⟩⟩
end Go.Proofs.YtcfdadgijnmemaaDoor
