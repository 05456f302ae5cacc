/-
  ReqlineKnown, walked: it returns true; condition: a variable of the library is an int.
-/
import Derived.Test.YtllhcfgddcjfkaaDoorRlU
namespace Go.Proofs.YtllhcfgddcjfkaaDoor
open Go.RowKit
set_option linter.unusedVariables false
set_option linter.unusedSimpArgs false

theorem kp0 : pA ⟨#[71, 69, 84, 32, 47, 97]⟩ = ⟨#[71, 69, 84]⟩ ∧ pB ⟨#[71, 69, 84, 32, 47, 97]⟩ = ⟨#[47, 97]⟩ ∧ pC ⟨#[71, 69, 84, 32, 47, 97]⟩ = ⟨#[]⟩ ∧ partN (byS ⟨#[71, 69, 84, 32, 47, 97]⟩) (⟨#[71, 69, 84, 32, 47, 97]⟩ : ByteArray).size = 2 := by decide +kernel
theorem kp1 : pA ⟨#[97, 32, 98, 32, 99, 32, 100]⟩ = ⟨#[97]⟩ ∧ pB ⟨#[97, 32, 98, 32, 99, 32, 100]⟩ = ⟨#[98]⟩ ∧ pC ⟨#[97, 32, 98, 32, 99, 32, 100]⟩ = ⟨#[99, 32, 100]⟩ ∧ partN (byS ⟨#[97, 32, 98, 32, 99, 32, 100]⟩) (⟨#[97, 32, 98, 32, 99, 32, 100]⟩ : ByteArray).size = 3 := by decide +kernel
theorem kp2 : pA ⟨#[]⟩ = ⟨#[]⟩ ∧ pB ⟨#[]⟩ = ⟨#[]⟩ ∧ pC ⟨#[]⟩ = ⟨#[]⟩ ∧ partN (byS ⟨#[]⟩) (⟨#[]⟩ : ByteArray).size = 1 := by decide +kernel
theorem kq0 : parS (byS ⟨#[71, 69]⟩) (⟨#[71, 69]⟩ : ByteArray).size = 400 ∧ (parP (byS ⟨#[71, 69]⟩) (⟨#[71, 69]⟩ : ByteArray).size : Int) = 2 := by decide +kernel
theorem kq1 : parS (byS ⟨#[71, 69, 84, 32, 32, 47, 97, 32, 72, 84, 84, 80, 47, 49, 46, 49]⟩) (⟨#[71, 69, 84, 32, 32, 47, 97, 32, 72, 84, 84, 80, 47, 49, 46, 49]⟩ : ByteArray).size = 400 ∧ (parP (byS ⟨#[71, 69, 84, 32, 32, 47, 97, 32, 72, 84, 84, 80, 47, 49, 46, 49]⟩) (⟨#[71, 69, 84, 32, 32, 47, 97, 32, 72, 84, 84, 80, 47, 49, 46, 49]⟩ : ByteArray).size : Int) = 4 := by decide +kernel
theorem kq2 : parS (byS ⟨#[71, 69, 84, 32, 97, 32, 72, 84, 84, 80, 47, 49, 46, 49]⟩) (⟨#[71, 69, 84, 32, 97, 32, 72, 84, 84, 80, 47, 49, 46, 49]⟩ : ByteArray).size = 400 ∧ (parP (byS ⟨#[71, 69, 84, 32, 97, 32, 72, 84, 84, 80, 47, 49, 46, 49]⟩) (⟨#[71, 69, 84, 32, 97, 32, 72, 84, 84, 80, 47, 49, 46, 49]⟩ : ByteArray).size : Int) = 4 := by decide +kernel
theorem kq3 : parS (byS ⟨#[71, 34, 84, 32, 47, 32, 72, 84, 84, 80, 47, 49, 46, 49]⟩) (⟨#[71, 34, 84, 32, 47, 32, 72, 84, 84, 80, 47, 49, 46, 49]⟩ : ByteArray).size = 400 ∧ (parP (byS ⟨#[71, 34, 84, 32, 47, 32, 72, 84, 84, 80, 47, 49, 46, 49]⟩) (⟨#[71, 34, 84, 32, 47, 32, 72, 84, 84, 80, 47, 49, 46, 49]⟩ : ByteArray).size : Int) = 1 := by decide +kernel
theorem kq4 : parS (byS ⟨#[71, 69, 84, 32, 47, 97, 35, 98, 32, 72, 84, 84, 80, 47, 49, 46, 49]⟩) (⟨#[71, 69, 84, 32, 47, 97, 35, 98, 32, 72, 84, 84, 80, 47, 49, 46, 49]⟩ : ByteArray).size = 400 ∧ (parP (byS ⟨#[71, 69, 84, 32, 47, 97, 35, 98, 32, 72, 84, 84, 80, 47, 49, 46, 49]⟩) (⟨#[71, 69, 84, 32, 47, 97, 35, 98, 32, 72, 84, 84, 80, 47, 49, 46, 49]⟩ : ByteArray).size : Int) = 6 := by decide +kernel
theorem kq5 : parS (byS ⟨#[71, 69, 84, 32, 47, 32, 72, 84, 84, 80, 47, 49, 46, 49, 32]⟩) (⟨#[71, 69, 84, 32, 47, 32, 72, 84, 84, 80, 47, 49, 46, 49, 32]⟩ : ByteArray).size = 400 ∧ (parP (byS ⟨#[71, 69, 84, 32, 47, 32, 72, 84, 84, 80, 47, 49, 46, 49, 32]⟩) (⟨#[71, 69, 84, 32, 47, 32, 72, 84, 84, 80, 47, 49, 46, 49, 32]⟩ : ByteArray).size : Int) = 14 := by decide +kernel
theorem kr (l : ByteArray) (h : l = letE 17) : parS (byS ((⟨#[71, 34, 84]⟩ : ByteArray) ++ l)) ((⟨#[71, 34, 84]⟩ : ByteArray) ++ l).size = 400 ∧ (parP (byS ((⟨#[71, 34, 84]⟩ : ByteArray) ++ l)) ((⟨#[71, 34, 84]⟩ : ByteArray) ++ l).size : Int) = 16 := by subst h; decide +kernel
theorem krs (l : ByteArray) (h : l = letE 17) : ((⟨#[71, 34, 84]⟩ : ByteArray) ++ l).size ≤ 1000000 := by subst h; decide +kernel
theorem kds (l : ByteArray) (h : l = letE 1024) : ((⟨#[71, 69, 84, 32, 47]⟩ : ByteArray) ++ l ++ (⟨#[32, 72, 84, 84, 80, 47, 49, 46, 49]⟩ : ByteArray)).size ≤ 1000000 := by rw [h, line_is, text_size, tgtL_size]; have : getE.size = 3 := rfl; omega
theorem kd (l : ByteArray) (h : l = letE 1024) : parS (byS ((⟨#[71, 69, 84, 32, 47]⟩ : ByteArray) ++ l ++ (⟨#[32, 72, 84, 84, 80, 47, 49, 46, 49]⟩ : ByteArray))) ((⟨#[71, 69, 84, 32, 47]⟩ : ByteArray) ++ l ++ (⟨#[32, 72, 84, 84, 80, 47, 49, 46, 49]⟩ : ByteArray)).size = 414 ∧ (parP (byS ((⟨#[71, 69, 84, 32, 47]⟩ : ByteArray) ++ l ++ (⟨#[32, 72, 84, 84, 80, 47, 49, 46, 49]⟩ : ByteArray))) ((⟨#[71, 69, 84, 32, 47]⟩ : ByteArray) ++ l ++ (⟨#[32, 72, 84, 84, 80, 47, 49, 46, 49]⟩ : ByteArray)).size : Int) = 1028 := by rw [h, line_is]; exact line_414
theorem kes (l : ByteArray) (h : l = letE 1023) : ((⟨#[71, 69, 84, 32, 47]⟩ : ByteArray) ++ l ++ (⟨#[32, 72, 84, 84, 80, 47, 49, 46, 49]⟩ : ByteArray)).size ≤ 1000000 := by rw [h, line_is, text_size, tgtL_size]; have : getE.size = 3 := rfl; omega
theorem ke (l : ByteArray) (h : l = letE 1023) : parS (byS ((⟨#[71, 69, 84, 32, 47]⟩ : ByteArray) ++ l ++ (⟨#[32, 72, 84, 84, 80, 47, 49, 46, 49]⟩ : ByteArray))) ((⟨#[71, 69, 84, 32, 47]⟩ : ByteArray) ++ l ++ (⟨#[32, 72, 84, 84, 80, 47, 49, 46, 49]⟩ : ByteArray)).size = 0 ∧ (parP (byS ((⟨#[71, 69, 84, 32, 47]⟩ : ByteArray) ++ l ++ (⟨#[32, 72, 84, 84, 80, 47, 49, 46, 49]⟩ : ByteArray))) ((⟨#[71, 69, 84, 32, 47]⟩ : ByteArray) ++ l ++ (⟨#[32, 72, 84, 84, 80, 47, 49, 46, 49]⟩ : ByteArray)).size : Int) = 1037 := by rw [h, line_is]; exact line_ok
theorem ks (l : ByteArray) (h : l = letE 17) : longS (byS l) l.size = 400 ∧ (longP (byS l) l.size : Int) = 16 := by subst h; decide +kernel
theorem kt0 : txtE ⟨#[71, 69, 84]⟩ ⟨#[97]⟩ = 3 ∧ txtS ⟨#[71, 69, 84]⟩ ⟨#[97]⟩ = ⟨#[]⟩ := by decide +kernel
theorem kt1 : txtE ⟨#[71, 32, 84]⟩ ⟨#[47]⟩ = 11 ∧ txtS ⟨#[71, 32, 84]⟩ ⟨#[47]⟩ = ⟨#[]⟩ := by decide +kernel
theorem kt2 : txtE ⟨#[71, 69, 84]⟩ ⟨#[47]⟩ = 0 ∧ txtS ⟨#[71, 69, 84]⟩ ⟨#[47]⟩ = ⟨#[71, 69, 84, 32, 47, 32, 72, 84, 84, 80, 47, 49, 46, 49]⟩ := by decide +kernel

set_option maxRecDepth 100000 in
set_option maxHeartbeats 4000000 in
theorem law_known (w : World) (hm : MaxOk w) :
    Calls Tryd.prog 7 #[] w fun e W' => e = .returned (.bool true) ∧ Below w.heap.size w W' := by
  have HM := Lib.hid hm
  have K := Lib.hid (Below.refl w.heap.size w)
  clear hm
  go_enter Tryd.func7, Tryd.ntmps7
  go_wp2_with (fail)
  refine (bparts ⟨#[71, 69, 84, 32, 47, 97]⟩ (by decide) _ (HM.out.below K.out)).mono ?_
  rintro e V ⟨rfl, h1⟩
  rw [kp0.1, kp0.2.1, kp0.2.2.1, kp0.2.2.2]
  have K' := Lib.hid (gr_call K.out h1)
  clear h1 K
  have K := K'
  clear K'
  go_wp2_with (fail)
  refine (bparts ⟨#[97, 32, 98, 32, 99, 32, 100]⟩ (by decide) _ (HM.out.below K.out)).mono ?_
  rintro e V ⟨rfl, h1⟩
  rw [kp1.1, kp1.2.1, kp1.2.2.1, kp1.2.2.2]
  have K' := Lib.hid (gr_call K.out h1)
  clear h1 K
  have K := K'
  clear K'
  go_wp2_with (fail)
  refine (bparts ⟨#[]⟩ (by decide) _ (HM.out.below K.out)).mono ?_
  rintro e V ⟨rfl, h1⟩
  rw [kp2.1, kp2.2.1, kp2.2.2.1, kp2.2.2.2]
  have K' := Lib.hid (gr_call K.out h1)
  clear h1 K
  have K := K'
  clear K'
  go_wp2_with (fail)
  refine (bparses ⟨#[71, 69]⟩ (by decide) 400 2 kq0.1 kq0.2 _ (HM.out.below K.out)).mono ?_
  rintro e V ⟨rfl, h1⟩
  have K' := Lib.hid (gr_call K.out h1)
  clear h1 K
  have K := K'
  clear K'
  go_wp2_with (fail)
  refine (bparses ⟨#[71, 69, 84, 32, 32, 47, 97, 32, 72, 84, 84, 80, 47, 49, 46, 49]⟩ (by decide) 400 4 kq1.1 kq1.2 _ (HM.out.below K.out)).mono ?_
  rintro e V ⟨rfl, h1⟩
  have K' := Lib.hid (gr_call K.out h1)
  clear h1 K
  have K := K'
  clear K'
  go_wp2_with (fail)
  refine (bparses ⟨#[71, 69, 84, 32, 97, 32, 72, 84, 84, 80, 47, 49, 46, 49]⟩ (by decide) 400 4 kq2.1 kq2.2 _ (HM.out.below K.out)).mono ?_
  rintro e V ⟨rfl, h1⟩
  have K' := Lib.hid (gr_call K.out h1)
  clear h1 K
  have K := K'
  clear K'
  go_wp2_with (fail)
  refine (bparses ⟨#[71, 34, 84, 32, 47, 32, 72, 84, 84, 80, 47, 49, 46, 49]⟩ (by decide) 400 1 kq3.1 kq3.2 _ (HM.out.below K.out)).mono ?_
  rintro e V ⟨rfl, h1⟩
  have K' := Lib.hid (gr_call K.out h1)
  clear h1 K
  have K := K'
  clear K'
  go_wp2_with (fail)
  refine (bparses ⟨#[71, 69, 84, 32, 47, 97, 35, 98, 32, 72, 84, 84, 80, 47, 49, 46, 49]⟩ (by decide) 400 6 kq4.1 kq4.2 _ (HM.out.below K.out)).mono ?_
  rintro e V ⟨rfl, h1⟩
  have K' := Lib.hid (gr_call K.out h1)
  clear h1 K
  have K := K'
  clear K'
  go_wp2_with (fail)
  refine (bparses ⟨#[71, 69, 84, 32, 47, 32, 72, 84, 84, 80, 47, 49, 46, 49, 32]⟩ (by decide) 400 14 kq5.1 kq5.2 _ (HM.out.below K.out)).mono ?_
  rintro e V ⟨rfl, h1⟩
  have K' := Lib.hid (gr_call K.out h1)
  clear h1 K
  have K := K'
  clear K'
  go_wp2_with (fail)
  refine (bletters 17 _ rfl (by omega) (by omega) _).mono ?_
  rintro e V ⟨rfl, h1⟩
  obtain ⟨la, hl⟩ : ∃ la, la = letE 17 := ⟨_, rfl⟩
  rw [← hl]
  have sla : la.size = 17 := by rw [hl]; exact letE_size 17
  have Fla := Lib.hid hl
  clear hl
  have K' := Lib.hid (gr_call K.out h1)
  clear h1 K
  have K := K'
  clear K'
  go_wp2_with (fail)
  refine (bparses ((⟨#[71, 34, 84]⟩ : ByteArray) ++ la) (krs la Fla.out) 400 16 (kr la Fla.out).1 (kr la Fla.out).2 _ (HM.out.below K.out)).mono ?_
  rintro e V ⟨rfl, h1⟩
  have K' := Lib.hid (gr_call K.out h1)
  clear h1 K
  have K := K'
  clear K'
  go_wp2_with (fail)
  refine (bletters 17 _ rfl (by omega) (by omega) _).mono ?_
  rintro e V ⟨rfl, h1⟩
  obtain ⟨lb, hl⟩ : ∃ lb, lb = letE 17 := ⟨_, rfl⟩
  rw [← hl]
  have slb : lb.size = 17 := by rw [hl]; exact letE_size 17
  have Flb := Lib.hid hl
  clear hl
  have K' := Lib.hid (gr_call K.out h1)
  clear h1 K
  have K := K'
  clear K'
  go_wp2_with (fail)
  refine (blong lb (by omega) _ (HM.out.below K.out)).mono ?_
  rintro e V ⟨rfl, h1⟩
  rw [(ks lb Flb.out).1, (ks lb Flb.out).2]
  have K' := Lib.hid (gr_call K.out h1)
  clear h1 K
  have K := K'
  clear K'
  go_wp2_with (fail)
  refine (bletters 1024 _ rfl (by omega) (by omega) _).mono ?_
  rintro e V ⟨rfl, h1⟩
  obtain ⟨ld, hl⟩ : ∃ ld, ld = letE 1024 := ⟨_, rfl⟩
  rw [← hl]
  have sld : ld.size = 1024 := by rw [hl]; exact letE_size 1024
  have Fld := Lib.hid hl
  clear hl
  have K' := Lib.hid (gr_call K.out h1)
  clear h1 K
  have K := K'
  clear K'
  go_wp2_with (fail)
  refine (bparses ((⟨#[71, 69, 84, 32, 47]⟩ : ByteArray) ++ ld ++ (⟨#[32, 72, 84, 84, 80, 47, 49, 46, 49]⟩ : ByteArray)) (kds ld Fld.out) 414 1028 (kd ld Fld.out).1 (kd ld Fld.out).2 _ (HM.out.below K.out)).mono ?_
  rintro e V ⟨rfl, h1⟩
  have K' := Lib.hid (gr_call K.out h1)
  clear h1 K
  have K := K'
  clear K'
  go_wp2_with (fail)
  refine (bletters 1023 _ rfl (by omega) (by omega) _).mono ?_
  rintro e V ⟨rfl, h1⟩
  obtain ⟨le, hl⟩ : ∃ le, le = letE 1023 := ⟨_, rfl⟩
  rw [← hl]
  have sle : le.size = 1023 := by rw [hl]; exact letE_size 1023
  have Fle := Lib.hid hl
  clear hl
  have K' := Lib.hid (gr_call K.out h1)
  clear h1 K
  have K := K'
  clear K'
  go_wp2_with (fail)
  refine (bparses ((⟨#[71, 69, 84, 32, 47]⟩ : ByteArray) ++ le ++ (⟨#[32, 72, 84, 84, 80, 47, 49, 46, 49]⟩ : ByteArray)) (kes le Fle.out) 0 1037 (ke le Fle.out).1 (ke le Fle.out).2 _ (HM.out.below K.out)).mono ?_
  rintro e V ⟨rfl, h1⟩
  have K' := Lib.hid (gr_call K.out h1)
  clear h1 K
  have K := K'
  clear K'
  go_wp2_with (fail)
  refine (btext ⟨#[71, 69, 84]⟩ ⟨#[97]⟩ (by decide) (by decide) _).mono ?_
  rintro e V ⟨rfl, h1⟩
  rw [kt0.1, kt0.2]
  have K' := Lib.hid (gr_call K.out h1)
  clear h1 K
  have K := K'
  clear K'
  go_wp2_with (fail)
  refine (btext ⟨#[71, 32, 84]⟩ ⟨#[47]⟩ (by decide) (by decide) _).mono ?_
  rintro e V ⟨rfl, h1⟩
  rw [kt1.1, kt1.2]
  have K' := Lib.hid (gr_call K.out h1)
  clear h1 K
  have K := K'
  clear K'
  go_wp2_with (fail)
  refine (btext ⟨#[71, 69, 84]⟩ ⟨#[47]⟩ (by decide) (by decide) _).mono ?_
  rintro e V ⟨rfl, h1⟩
  rw [kt2.1, kt2.2]
  have K' := Lib.hid (gr_call K.out h1)
  clear h1 K
  have K := K'
  clear K'
  go_wp2_with (fail)
  refine (awake _ (HM.out.below K.out)).mono ?_
  rintro e V ⟨rfl, h1⟩
  have K' := Lib.hid (gr_call K.out h1)
  clear h1 K
  have K := K'
  clear K'
  go_wp2_with (fail)
  go_ret
  exact ⟨rfl, K.out⟩
end Go.Proofs.YtllhcfgddcjfkaaDoor
