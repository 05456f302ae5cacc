/-
  FlagKnown, walked: it returns true; conditions: the two tables lie as they are laid, a variable of the library is an int.
-/
import Derived.Test.YtlipjagdlpkjpaaDoorFtY
namespace Go.Proofs.YtlipjagdlpkjpaaDoor
open Go.RowKit
set_option linter.unusedVariables false
set_option linter.unusedSimpArgs false

theorem cells_blk {w : World} {g n : Nat} {t : TypeId} {cs : Array Value} {f : Nat → Nat → Value} (h : Blk w g t cs) (hc : ∀ i, i < n → cs[i]? = some (f i 0)) : Cells w (some ⟨g, 0, none⟩) 1 n f := fun _ =>
  ⟨g, 0, rfl, h.lt, fun i j hi hj => by
    obtain rfl : j = 0 := by omega
    rw [show 0 + i * 1 + 0 = i by omega, h.cell i]
    exact hc i hi⟩
def nmAt (l : List ByteArray) : Nat → ByteArray := fun i => l.getD i ⟨#[]⟩
theorem kt0 : textV (⟨false, false, false, false, false, false, false, false, 0, 0⟩ : Flg) = ⟨#[]⟩ ∧ chkF (⟨false, false, false, false, false, false, false, false, 0, 0⟩ : Flg) = 0 := by decide +kernel
theorem kt1 : textV (⟨true, true, false, false, false, false, false, false, 0, 0⟩ : Flg) = ⟨#[]⟩ ∧ chkF (⟨true, true, false, false, false, false, false, false, 0, 0⟩ : Flg) = 15 := by decide +kernel
theorem ke0 : endsV (⟨false, false, false, false, false, false, true, false, 3, 0⟩ : Flg) = ⟨#[83, 61, 51]⟩ ∧ chkF (⟨false, false, false, false, false, false, true, false, 3, 0⟩ : Flg) = 0 := by decide +kernel
theorem ke1 : endsV (⟨false, false, false, false, false, false, true, false, 0, 0⟩ : Flg) = ⟨#[]⟩ ∧ chkF (⟨false, false, false, false, false, false, true, false, 0, 0⟩ : Flg) = 0 := by decide +kernel
theorem ks0 : stillB (⟨false, false, false, false, false, false, true, false, 0, 0⟩ : Flg) = true ∧ chkF (⟨false, false, false, false, false, false, true, false, 0, 0⟩ : Flg) = 0 := by decide +kernel
theorem ks1 : stillB (⟨true, false, false, false, false, false, false, false, 0, 0⟩ : Flg) = false ∧ chkF (⟨true, false, false, false, false, false, false, false, 0, 0⟩ : Flg) = 0 := by decide +kernel
theorem kw0 : withR (⟨false, false, false, false, false, false, false, false, 0, 0⟩ : Flg) (namesL (nmAt [⟨#[65]⟩, ⟨#[82, 61, 51, 48, 56]⟩]) 2) = ((⟨false, false, false, false, false, false, true, false, 0, 308⟩ : Flg), 0) := by kernel_rfl
theorem kw1 : withR (⟨true, false, false, false, false, false, false, false, 0, 0⟩ : Flg) (namesL (nmAt [⟨#[76]⟩]) 1) = ((⟨false, false, false, false, false, false, false, false, 0, 0⟩ : Flg), 7) := by kernel_rfl
theorem kw2 : withR (⟨true, false, false, false, false, false, false, false, 0, 0⟩ : Flg) (namesL (nmAt [⟨#[78]⟩]) 1) = ((⟨false, false, false, false, false, false, false, false, 0, 0⟩ : Flg), 15) := by kernel_rfl
theorem kw3 : withR (⟨true, false, false, false, false, false, false, false, 0, 0⟩ : Flg) (namesL (nmAt [⟨#[81]⟩]) 1) = ((⟨false, false, false, false, false, false, false, false, 0, 0⟩ : Flg), 11) := by kernel_rfl
theorem kr0 : parseS ⟨#[91, 76, 93]⟩ = ((⟨true, false, false, false, false, false, false, false, 0, 0⟩ : Flg), 0, 0) := by kernel_rfl
theorem kr1 : parseS ⟨#[91, 83, 61, 51, 93]⟩ = ((⟨false, false, false, false, false, false, false, false, 3, 0⟩ : Flg), 0, 0) := by kernel_rfl
theorem kr2 : parseS ⟨#[]⟩ = ((⟨false, false, false, false, false, false, false, false, 0, 0⟩ : Flg), 0, 0) := by kernel_rfl
theorem kf0 : parseS ⟨#[76]⟩ = (zeroF, 3, 0) := by kernel_rfl
theorem kf1 : parseS ⟨#[91, 76]⟩ = (zeroF, 3, 1) := by kernel_rfl
theorem kf2 : parseS ⟨#[91, 93]⟩ = (zeroF, 11, 1) := by kernel_rfl
theorem kf3 : parseS ⟨#[91, 83, 61, 93]⟩ = (zeroF, 3, 1) := by kernel_rfl
theorem kf4 : parseS ⟨#[91, 83, 61, 48, 51, 93]⟩ = (zeroF, 3, 1) := by kernel_rfl
theorem kf5 : parseS ⟨#[91, 76, 44, 76, 93]⟩ = (zeroF, 7, 3) := by kernel_rfl
theorem kf6 : parseS ⟨#[91, 83, 61, 48, 93]⟩ = (zeroF, 2, 0) := by kernel_rfl
theorem kf7 : parseS ⟨#[91, 83, 61, 54, 52, 93]⟩ = (zeroF, 2, 0) := by kernel_rfl
theorem kf8 : parseS ⟨#[91, 82, 61, 51, 48, 48, 93]⟩ = (zeroF, 2, 0) := by kernel_rfl
theorem kf9 : parseS ⟨#[91, 76, 44, 78, 93]⟩ = (zeroF, 15, 0) := by kernel_rfl
theorem kf10 : parseS ⟨#[91, 65, 44, 68, 93]⟩ = (zeroF, 15, 0) := by kernel_rfl
theorem kf11 : parseS ⟨#[91, 65, 44, 70, 93]⟩ = (zeroF, 15, 0) := by kernel_rfl

set_option maxRecDepth 100000 in
set_option maxHeartbeats 8000000 in
theorem law_known (w : World) (hT : Tabs w) (hm : MaxOk w) :
    Calls Tryd.prog 6 #[] w fun e W' => e = .returned (.bool true) ∧ Below w.heap.size w W' := by
  have HT := Lib.hid (And.intro hT hm)
  have K := Lib.hid (And.intro (Blk.new w 24 #[Value.bool ((⟨true, false, false, false, false, false, false, false, 0, 0⟩ : Flg)).last, .bool ((⟨true, false, false, false, false, false, false, false, 0, 0⟩ : Flg)).next, .bool ((⟨true, false, false, false, false, false, false, false, 0, 0⟩ : Flg)).chain, .bool ((⟨true, false, false, false, false, false, false, false, 0, 0⟩ : Flg)).fin, .bool ((⟨true, false, false, false, false, false, false, false, 0, 0⟩ : Flg)).forb, .bool ((⟨true, false, false, false, false, false, false, false, 0, 0⟩ : Flg)).gone, .bool ((⟨true, false, false, false, false, false, false, false, 0, 0⟩ : Flg)).app, .bool ((⟨true, false, false, false, false, false, false, false, 0, 0⟩ : Flg)).disc, .int .i64 ((⟨true, false, false, false, false, false, false, false, 0, 0⟩ : Flg)).skip, .int .i64 ((⟨true, false, false, false, false, false, false, false, 0, 0⟩ : Flg)).red]) (gr_alloc (Below.refl w.heap.size w) (.cells #[Value.bool ((⟨true, false, false, false, false, false, false, false, 0, 0⟩ : Flg)).last, .bool ((⟨true, false, false, false, false, false, false, false, 0, 0⟩ : Flg)).next, .bool ((⟨true, false, false, false, false, false, false, false, 0, 0⟩ : Flg)).chain, .bool ((⟨true, false, false, false, false, false, false, false, 0, 0⟩ : Flg)).fin, .bool ((⟨true, false, false, false, false, false, false, false, 0, 0⟩ : Flg)).forb, .bool ((⟨true, false, false, false, false, false, false, false, 0, 0⟩ : Flg)).gone, .bool ((⟨true, false, false, false, false, false, false, false, 0, 0⟩ : Flg)).app, .bool ((⟨true, false, false, false, false, false, false, false, 0, 0⟩ : Flg)).disc, .int .i64 ((⟨true, false, false, false, false, false, false, false, 0, 0⟩ : Flg)).skip, .int .i64 ((⟨true, false, false, false, false, false, false, false, 0, 0⟩ : Flg)).red] 24)))
  clear hT hm
  go_enter Tryd.func6, Tryd.ntmps6
  go_wp2_with (fail)
  refine (ftext (⟨false, false, false, false, false, false, false, false, 0, 0⟩ : Flg) (by decide) _ (HT.out.1.below K.out.2 (Nat.le_refl _)) (HT.out.2.below K.out.2 (Nat.le_refl _))).mono ?_
  rintro e V1 ⟨rfl, h1⟩
  rw [kt0.1, kt0.2]
  have K' := Lib.hid (And.intro (K.out.1.call h1) (gr_call K.out.2 h1))
  clear h1 K
  have K := K'
  clear K'
  go_wp2_with (fail)
  refine (ftext (⟨true, true, false, false, false, false, false, false, 0, 0⟩ : Flg) (by decide) _ (HT.out.1.below K.out.2 (Nat.le_refl _)) (HT.out.2.below K.out.2 (Nat.le_refl _))).mono ?_
  rintro e V2 ⟨rfl, h1⟩
  rw [kt1.1, kt1.2]
  have K' := Lib.hid (And.intro (K.out.1.call h1) (gr_call K.out.2 h1))
  clear h1 K
  have K := K'
  clear K'
  go_wp2_with (fail)
  refine (fends (⟨false, false, false, false, false, false, true, false, 3, 0⟩ : Flg) (by decide) _ (HT.out.1.below K.out.2 (Nat.le_refl _))).mono ?_
  rintro e V3 ⟨rfl, h1⟩
  rw [ke0.1, ke0.2]
  have K' := Lib.hid (And.intro (K.out.1.call h1) (gr_call K.out.2 h1))
  clear h1 K
  have K := K'
  clear K'
  go_wp2_with (fail)
  refine (fends (⟨false, false, false, false, false, false, true, false, 0, 0⟩ : Flg) (by decide) _ (HT.out.1.below K.out.2 (Nat.le_refl _))).mono ?_
  rintro e V4 ⟨rfl, h1⟩
  rw [ke1.1, ke1.2]
  have K' := Lib.hid (And.intro (K.out.1.call h1) (gr_call K.out.2 h1))
  clear h1 K
  have K := K'
  clear K'
  go_wp2_with (fail)
  refine (fstill (⟨false, false, false, false, false, false, true, false, 0, 0⟩ : Flg) (by decide) _ (HT.out.1.below K.out.2 (Nat.le_refl _))).mono ?_
  rintro e V5 ⟨rfl, h1⟩
  rw [ks0.1, ks0.2]
  have K' := Lib.hid (And.intro (K.out.1.call h1) (gr_call K.out.2 h1))
  clear h1 K
  have K := K'
  clear K'
  have b0 : V5.cell? ⟨w.heap.size, 0, none⟩ = some (.bool true) := K.out.1.cell' (i := 0) rfl
  have b1 : V5.cell? ⟨w.heap.size, 1, none⟩ = some (.bool false) := K.out.1.cell' (i := 1) rfl
  have b2 : V5.cell? ⟨w.heap.size, 2, none⟩ = some (.bool false) := K.out.1.cell' (i := 2) rfl
  have b3 : V5.cell? ⟨w.heap.size, 3, none⟩ = some (.bool false) := K.out.1.cell' (i := 3) rfl
  have b4 : V5.cell? ⟨w.heap.size, 4, none⟩ = some (.bool false) := K.out.1.cell' (i := 4) rfl
  have b5 : V5.cell? ⟨w.heap.size, 5, none⟩ = some (.bool false) := K.out.1.cell' (i := 5) rfl
  have b6 : V5.cell? ⟨w.heap.size, 6, none⟩ = some (.bool false) := K.out.1.cell' (i := 6) rfl
  have b7 : V5.cell? ⟨w.heap.size, 7, none⟩ = some (.bool false) := K.out.1.cell' (i := 7) rfl
  have b8 : V5.cell? ⟨w.heap.size, 8, none⟩ = some (.int .i64 0) := K.out.1.cell' (i := 8) rfl
  have b9 : V5.cell? ⟨w.heap.size, 9, none⟩ = some (.int .i64 0) := K.out.1.cell' (i := 9) rfl
  have bl := K.out.1.lt
  go_wp2_with (fail)
  refine (fstill (⟨true, false, false, false, false, false, false, false, 0, 0⟩ : Flg) (by decide) _ (HT.out.1.below K.out.2 (Nat.le_refl _))).mono ?_
  rintro e V6 ⟨rfl, h1⟩
  rw [ks1.1, ks1.2]
  clear b0 b1 b2 b3 b4 b5 b6 b7 b8 b9 bl
  have K' := Lib.hid (And.intro (K.out.1.call h1) (gr_call K.out.2 h1))
  clear h1 K
  have K := K'
  clear K'
  go_wp2_with (fail)
  have hbN : Blk (V6.alloc (.cells #[.string ⟨#[65]⟩, .string ⟨#[82, 61, 51, 48, 56]⟩] 9)) (V6.heap.size) 9 #[.string ⟨#[65]⟩, .string ⟨#[82, 61, 51, 48, 56]⟩] := blk_at (by simp)
  have hC : Cells (V6.alloc (.cells #[.string ⟨#[65]⟩, .string ⟨#[82, 61, 51, 48, 56]⟩] 9)) (some ⟨V6.heap.size, 0, none⟩) 1 2 (strAt (nmAt [⟨#[65]⟩, ⟨#[82, 61, 51, 48, 56]⟩])) := cells_blk hbN (fun i hi => by
    match i, hi with
    | 0, _ => rfl
    | 1, _ => rfl)
  have K2 := Lib.hid (And.intro (K.out.1.alloc (.cells #[.string ⟨#[65]⟩, .string ⟨#[82, 61, 51, 48, 56]⟩] 9)) (And.intro (gr_alloc K.out.2 (.cells #[.string ⟨#[65]⟩, .string ⟨#[82, 61, 51, 48, 56]⟩] 9)) hC))
  clear hbN hC
  refine (fwith (⟨false, false, false, false, false, false, false, false, 0, 0⟩ : Flg) ⟨by decide, by decide⟩ (nmAt [⟨#[65]⟩, ⟨#[82, 61, 51, 48, 56]⟩]) _ 2 2 (by decide) (by intro i hi; match i, hi with
    | 0, _ => exact (by decide)
    | 1, _ => exact (by decide)) _ (HT.out.1.below K2.out.2.1 (Nat.le_refl _)) (HT.out.2.below K2.out.2.1 (Nat.le_refl _)) K2.out.2.2).mono ?_
  rintro e V7 ⟨rfl, h1⟩
  rw [kw0]
  have K' := Lib.hid (And.intro ((K2.out.1.call h1).alloc (.cells #[Value.bool ((⟨false, false, false, false, false, false, true, false, 0, 308⟩ : Flg)).last, .bool ((⟨false, false, false, false, false, false, true, false, 0, 308⟩ : Flg)).next, .bool ((⟨false, false, false, false, false, false, true, false, 0, 308⟩ : Flg)).chain, .bool ((⟨false, false, false, false, false, false, true, false, 0, 308⟩ : Flg)).fin, .bool ((⟨false, false, false, false, false, false, true, false, 0, 308⟩ : Flg)).forb, .bool ((⟨false, false, false, false, false, false, true, false, 0, 308⟩ : Flg)).gone, .bool ((⟨false, false, false, false, false, false, true, false, 0, 308⟩ : Flg)).app, .bool ((⟨false, false, false, false, false, false, true, false, 0, 308⟩ : Flg)).disc, .int .i64 ((⟨false, false, false, false, false, false, true, false, 0, 308⟩ : Flg)).skip, .int .i64 ((⟨false, false, false, false, false, false, true, false, 0, 308⟩ : Flg)).red] 24)) (gr_alloc (gr_call K2.out.2.1 h1) (.cells #[Value.bool ((⟨false, false, false, false, false, false, true, false, 0, 308⟩ : Flg)).last, .bool ((⟨false, false, false, false, false, false, true, false, 0, 308⟩ : Flg)).next, .bool ((⟨false, false, false, false, false, false, true, false, 0, 308⟩ : Flg)).chain, .bool ((⟨false, false, false, false, false, false, true, false, 0, 308⟩ : Flg)).fin, .bool ((⟨false, false, false, false, false, false, true, false, 0, 308⟩ : Flg)).forb, .bool ((⟨false, false, false, false, false, false, true, false, 0, 308⟩ : Flg)).gone, .bool ((⟨false, false, false, false, false, false, true, false, 0, 308⟩ : Flg)).app, .bool ((⟨false, false, false, false, false, false, true, false, 0, 308⟩ : Flg)).disc, .int .i64 ((⟨false, false, false, false, false, false, true, false, 0, 308⟩ : Flg)).skip, .int .i64 ((⟨false, false, false, false, false, false, true, false, 0, 308⟩ : Flg)).red] 24)))
  have C := Lib.hid (Blk.new V7 24 #[Value.bool ((⟨false, false, false, false, false, false, true, false, 0, 308⟩ : Flg)).last, .bool ((⟨false, false, false, false, false, false, true, false, 0, 308⟩ : Flg)).next, .bool ((⟨false, false, false, false, false, false, true, false, 0, 308⟩ : Flg)).chain, .bool ((⟨false, false, false, false, false, false, true, false, 0, 308⟩ : Flg)).fin, .bool ((⟨false, false, false, false, false, false, true, false, 0, 308⟩ : Flg)).forb, .bool ((⟨false, false, false, false, false, false, true, false, 0, 308⟩ : Flg)).gone, .bool ((⟨false, false, false, false, false, false, true, false, 0, 308⟩ : Flg)).app, .bool ((⟨false, false, false, false, false, false, true, false, 0, 308⟩ : Flg)).disc, .int .i64 ((⟨false, false, false, false, false, false, true, false, 0, 308⟩ : Flg)).skip, .int .i64 ((⟨false, false, false, false, false, false, true, false, 0, 308⟩ : Flg)).red])
  have cn := (Blk.new V7 24 #[Value.bool ((⟨false, false, false, false, false, false, true, false, 0, 308⟩ : Flg)).last, .bool ((⟨false, false, false, false, false, false, true, false, 0, 308⟩ : Flg)).next, .bool ((⟨false, false, false, false, false, false, true, false, 0, 308⟩ : Flg)).chain, .bool ((⟨false, false, false, false, false, false, true, false, 0, 308⟩ : Flg)).fin, .bool ((⟨false, false, false, false, false, false, true, false, 0, 308⟩ : Flg)).forb, .bool ((⟨false, false, false, false, false, false, true, false, 0, 308⟩ : Flg)).gone, .bool ((⟨false, false, false, false, false, false, true, false, 0, 308⟩ : Flg)).app, .bool ((⟨false, false, false, false, false, false, true, false, 0, 308⟩ : Flg)).disc, .int .i64 ((⟨false, false, false, false, false, false, true, false, 0, 308⟩ : Flg)).skip, .int .i64 ((⟨false, false, false, false, false, false, true, false, 0, 308⟩ : Flg)).red]).lt
  clear h1 K K2
  have K := K'
  clear K'
  have b0 : (V7.alloc (.cells #[Value.bool ((⟨false, false, false, false, false, false, true, false, 0, 308⟩ : Flg)).last, .bool ((⟨false, false, false, false, false, false, true, false, 0, 308⟩ : Flg)).next, .bool ((⟨false, false, false, false, false, false, true, false, 0, 308⟩ : Flg)).chain, .bool ((⟨false, false, false, false, false, false, true, false, 0, 308⟩ : Flg)).fin, .bool ((⟨false, false, false, false, false, false, true, false, 0, 308⟩ : Flg)).forb, .bool ((⟨false, false, false, false, false, false, true, false, 0, 308⟩ : Flg)).gone, .bool ((⟨false, false, false, false, false, false, true, false, 0, 308⟩ : Flg)).app, .bool ((⟨false, false, false, false, false, false, true, false, 0, 308⟩ : Flg)).disc, .int .i64 ((⟨false, false, false, false, false, false, true, false, 0, 308⟩ : Flg)).skip, .int .i64 ((⟨false, false, false, false, false, false, true, false, 0, 308⟩ : Flg)).red] 24)).cell? ⟨w.heap.size, 0, none⟩ = some (.bool true) := K.out.1.cell' (i := 0) rfl
  have b1 : (V7.alloc (.cells #[Value.bool ((⟨false, false, false, false, false, false, true, false, 0, 308⟩ : Flg)).last, .bool ((⟨false, false, false, false, false, false, true, false, 0, 308⟩ : Flg)).next, .bool ((⟨false, false, false, false, false, false, true, false, 0, 308⟩ : Flg)).chain, .bool ((⟨false, false, false, false, false, false, true, false, 0, 308⟩ : Flg)).fin, .bool ((⟨false, false, false, false, false, false, true, false, 0, 308⟩ : Flg)).forb, .bool ((⟨false, false, false, false, false, false, true, false, 0, 308⟩ : Flg)).gone, .bool ((⟨false, false, false, false, false, false, true, false, 0, 308⟩ : Flg)).app, .bool ((⟨false, false, false, false, false, false, true, false, 0, 308⟩ : Flg)).disc, .int .i64 ((⟨false, false, false, false, false, false, true, false, 0, 308⟩ : Flg)).skip, .int .i64 ((⟨false, false, false, false, false, false, true, false, 0, 308⟩ : Flg)).red] 24)).cell? ⟨w.heap.size, 1, none⟩ = some (.bool false) := K.out.1.cell' (i := 1) rfl
  have b2 : (V7.alloc (.cells #[Value.bool ((⟨false, false, false, false, false, false, true, false, 0, 308⟩ : Flg)).last, .bool ((⟨false, false, false, false, false, false, true, false, 0, 308⟩ : Flg)).next, .bool ((⟨false, false, false, false, false, false, true, false, 0, 308⟩ : Flg)).chain, .bool ((⟨false, false, false, false, false, false, true, false, 0, 308⟩ : Flg)).fin, .bool ((⟨false, false, false, false, false, false, true, false, 0, 308⟩ : Flg)).forb, .bool ((⟨false, false, false, false, false, false, true, false, 0, 308⟩ : Flg)).gone, .bool ((⟨false, false, false, false, false, false, true, false, 0, 308⟩ : Flg)).app, .bool ((⟨false, false, false, false, false, false, true, false, 0, 308⟩ : Flg)).disc, .int .i64 ((⟨false, false, false, false, false, false, true, false, 0, 308⟩ : Flg)).skip, .int .i64 ((⟨false, false, false, false, false, false, true, false, 0, 308⟩ : Flg)).red] 24)).cell? ⟨w.heap.size, 2, none⟩ = some (.bool false) := K.out.1.cell' (i := 2) rfl
  have b3 : (V7.alloc (.cells #[Value.bool ((⟨false, false, false, false, false, false, true, false, 0, 308⟩ : Flg)).last, .bool ((⟨false, false, false, false, false, false, true, false, 0, 308⟩ : Flg)).next, .bool ((⟨false, false, false, false, false, false, true, false, 0, 308⟩ : Flg)).chain, .bool ((⟨false, false, false, false, false, false, true, false, 0, 308⟩ : Flg)).fin, .bool ((⟨false, false, false, false, false, false, true, false, 0, 308⟩ : Flg)).forb, .bool ((⟨false, false, false, false, false, false, true, false, 0, 308⟩ : Flg)).gone, .bool ((⟨false, false, false, false, false, false, true, false, 0, 308⟩ : Flg)).app, .bool ((⟨false, false, false, false, false, false, true, false, 0, 308⟩ : Flg)).disc, .int .i64 ((⟨false, false, false, false, false, false, true, false, 0, 308⟩ : Flg)).skip, .int .i64 ((⟨false, false, false, false, false, false, true, false, 0, 308⟩ : Flg)).red] 24)).cell? ⟨w.heap.size, 3, none⟩ = some (.bool false) := K.out.1.cell' (i := 3) rfl
  have b4 : (V7.alloc (.cells #[Value.bool ((⟨false, false, false, false, false, false, true, false, 0, 308⟩ : Flg)).last, .bool ((⟨false, false, false, false, false, false, true, false, 0, 308⟩ : Flg)).next, .bool ((⟨false, false, false, false, false, false, true, false, 0, 308⟩ : Flg)).chain, .bool ((⟨false, false, false, false, false, false, true, false, 0, 308⟩ : Flg)).fin, .bool ((⟨false, false, false, false, false, false, true, false, 0, 308⟩ : Flg)).forb, .bool ((⟨false, false, false, false, false, false, true, false, 0, 308⟩ : Flg)).gone, .bool ((⟨false, false, false, false, false, false, true, false, 0, 308⟩ : Flg)).app, .bool ((⟨false, false, false, false, false, false, true, false, 0, 308⟩ : Flg)).disc, .int .i64 ((⟨false, false, false, false, false, false, true, false, 0, 308⟩ : Flg)).skip, .int .i64 ((⟨false, false, false, false, false, false, true, false, 0, 308⟩ : Flg)).red] 24)).cell? ⟨w.heap.size, 4, none⟩ = some (.bool false) := K.out.1.cell' (i := 4) rfl
  have b5 : (V7.alloc (.cells #[Value.bool ((⟨false, false, false, false, false, false, true, false, 0, 308⟩ : Flg)).last, .bool ((⟨false, false, false, false, false, false, true, false, 0, 308⟩ : Flg)).next, .bool ((⟨false, false, false, false, false, false, true, false, 0, 308⟩ : Flg)).chain, .bool ((⟨false, false, false, false, false, false, true, false, 0, 308⟩ : Flg)).fin, .bool ((⟨false, false, false, false, false, false, true, false, 0, 308⟩ : Flg)).forb, .bool ((⟨false, false, false, false, false, false, true, false, 0, 308⟩ : Flg)).gone, .bool ((⟨false, false, false, false, false, false, true, false, 0, 308⟩ : Flg)).app, .bool ((⟨false, false, false, false, false, false, true, false, 0, 308⟩ : Flg)).disc, .int .i64 ((⟨false, false, false, false, false, false, true, false, 0, 308⟩ : Flg)).skip, .int .i64 ((⟨false, false, false, false, false, false, true, false, 0, 308⟩ : Flg)).red] 24)).cell? ⟨w.heap.size, 5, none⟩ = some (.bool false) := K.out.1.cell' (i := 5) rfl
  have b6 : (V7.alloc (.cells #[Value.bool ((⟨false, false, false, false, false, false, true, false, 0, 308⟩ : Flg)).last, .bool ((⟨false, false, false, false, false, false, true, false, 0, 308⟩ : Flg)).next, .bool ((⟨false, false, false, false, false, false, true, false, 0, 308⟩ : Flg)).chain, .bool ((⟨false, false, false, false, false, false, true, false, 0, 308⟩ : Flg)).fin, .bool ((⟨false, false, false, false, false, false, true, false, 0, 308⟩ : Flg)).forb, .bool ((⟨false, false, false, false, false, false, true, false, 0, 308⟩ : Flg)).gone, .bool ((⟨false, false, false, false, false, false, true, false, 0, 308⟩ : Flg)).app, .bool ((⟨false, false, false, false, false, false, true, false, 0, 308⟩ : Flg)).disc, .int .i64 ((⟨false, false, false, false, false, false, true, false, 0, 308⟩ : Flg)).skip, .int .i64 ((⟨false, false, false, false, false, false, true, false, 0, 308⟩ : Flg)).red] 24)).cell? ⟨w.heap.size, 6, none⟩ = some (.bool false) := K.out.1.cell' (i := 6) rfl
  have b7 : (V7.alloc (.cells #[Value.bool ((⟨false, false, false, false, false, false, true, false, 0, 308⟩ : Flg)).last, .bool ((⟨false, false, false, false, false, false, true, false, 0, 308⟩ : Flg)).next, .bool ((⟨false, false, false, false, false, false, true, false, 0, 308⟩ : Flg)).chain, .bool ((⟨false, false, false, false, false, false, true, false, 0, 308⟩ : Flg)).fin, .bool ((⟨false, false, false, false, false, false, true, false, 0, 308⟩ : Flg)).forb, .bool ((⟨false, false, false, false, false, false, true, false, 0, 308⟩ : Flg)).gone, .bool ((⟨false, false, false, false, false, false, true, false, 0, 308⟩ : Flg)).app, .bool ((⟨false, false, false, false, false, false, true, false, 0, 308⟩ : Flg)).disc, .int .i64 ((⟨false, false, false, false, false, false, true, false, 0, 308⟩ : Flg)).skip, .int .i64 ((⟨false, false, false, false, false, false, true, false, 0, 308⟩ : Flg)).red] 24)).cell? ⟨w.heap.size, 7, none⟩ = some (.bool false) := K.out.1.cell' (i := 7) rfl
  have b8 : (V7.alloc (.cells #[Value.bool ((⟨false, false, false, false, false, false, true, false, 0, 308⟩ : Flg)).last, .bool ((⟨false, false, false, false, false, false, true, false, 0, 308⟩ : Flg)).next, .bool ((⟨false, false, false, false, false, false, true, false, 0, 308⟩ : Flg)).chain, .bool ((⟨false, false, false, false, false, false, true, false, 0, 308⟩ : Flg)).fin, .bool ((⟨false, false, false, false, false, false, true, false, 0, 308⟩ : Flg)).forb, .bool ((⟨false, false, false, false, false, false, true, false, 0, 308⟩ : Flg)).gone, .bool ((⟨false, false, false, false, false, false, true, false, 0, 308⟩ : Flg)).app, .bool ((⟨false, false, false, false, false, false, true, false, 0, 308⟩ : Flg)).disc, .int .i64 ((⟨false, false, false, false, false, false, true, false, 0, 308⟩ : Flg)).skip, .int .i64 ((⟨false, false, false, false, false, false, true, false, 0, 308⟩ : Flg)).red] 24)).cell? ⟨w.heap.size, 8, none⟩ = some (.int .i64 0) := K.out.1.cell' (i := 8) rfl
  have b9 : (V7.alloc (.cells #[Value.bool ((⟨false, false, false, false, false, false, true, false, 0, 308⟩ : Flg)).last, .bool ((⟨false, false, false, false, false, false, true, false, 0, 308⟩ : Flg)).next, .bool ((⟨false, false, false, false, false, false, true, false, 0, 308⟩ : Flg)).chain, .bool ((⟨false, false, false, false, false, false, true, false, 0, 308⟩ : Flg)).fin, .bool ((⟨false, false, false, false, false, false, true, false, 0, 308⟩ : Flg)).forb, .bool ((⟨false, false, false, false, false, false, true, false, 0, 308⟩ : Flg)).gone, .bool ((⟨false, false, false, false, false, false, true, false, 0, 308⟩ : Flg)).app, .bool ((⟨false, false, false, false, false, false, true, false, 0, 308⟩ : Flg)).disc, .int .i64 ((⟨false, false, false, false, false, false, true, false, 0, 308⟩ : Flg)).skip, .int .i64 ((⟨false, false, false, false, false, false, true, false, 0, 308⟩ : Flg)).red] 24)).cell? ⟨w.heap.size, 9, none⟩ = some (.int .i64 0) := K.out.1.cell' (i := 9) rfl
  have bl := K.out.1.lt
  go_wp2_with (fail)
  have hbN : Blk ((V7.alloc (.cells #[Value.bool ((⟨false, false, false, false, false, false, true, false, 0, 308⟩ : Flg)).last, .bool ((⟨false, false, false, false, false, false, true, false, 0, 308⟩ : Flg)).next, .bool ((⟨false, false, false, false, false, false, true, false, 0, 308⟩ : Flg)).chain, .bool ((⟨false, false, false, false, false, false, true, false, 0, 308⟩ : Flg)).fin, .bool ((⟨false, false, false, false, false, false, true, false, 0, 308⟩ : Flg)).forb, .bool ((⟨false, false, false, false, false, false, true, false, 0, 308⟩ : Flg)).gone, .bool ((⟨false, false, false, false, false, false, true, false, 0, 308⟩ : Flg)).app, .bool ((⟨false, false, false, false, false, false, true, false, 0, 308⟩ : Flg)).disc, .int .i64 ((⟨false, false, false, false, false, false, true, false, 0, 308⟩ : Flg)).skip, .int .i64 ((⟨false, false, false, false, false, false, true, false, 0, 308⟩ : Flg)).red] 24)).alloc (.cells #[.string ⟨#[76]⟩] 9)) (V7.heap.size + 1) 9 #[.string ⟨#[76]⟩] := blk_at (by simp)
  have hC : Cells ((V7.alloc (.cells #[Value.bool ((⟨false, false, false, false, false, false, true, false, 0, 308⟩ : Flg)).last, .bool ((⟨false, false, false, false, false, false, true, false, 0, 308⟩ : Flg)).next, .bool ((⟨false, false, false, false, false, false, true, false, 0, 308⟩ : Flg)).chain, .bool ((⟨false, false, false, false, false, false, true, false, 0, 308⟩ : Flg)).fin, .bool ((⟨false, false, false, false, false, false, true, false, 0, 308⟩ : Flg)).forb, .bool ((⟨false, false, false, false, false, false, true, false, 0, 308⟩ : Flg)).gone, .bool ((⟨false, false, false, false, false, false, true, false, 0, 308⟩ : Flg)).app, .bool ((⟨false, false, false, false, false, false, true, false, 0, 308⟩ : Flg)).disc, .int .i64 ((⟨false, false, false, false, false, false, true, false, 0, 308⟩ : Flg)).skip, .int .i64 ((⟨false, false, false, false, false, false, true, false, 0, 308⟩ : Flg)).red] 24)).alloc (.cells #[.string ⟨#[76]⟩] 9)) (some ⟨V7.heap.size + 1, 0, none⟩) 1 1 (strAt (nmAt [⟨#[76]⟩])) := cells_blk hbN (fun i hi => by
    match i, hi with
    | 0, _ => rfl)
  have K2 := Lib.hid (And.intro (K.out.1.alloc (.cells #[.string ⟨#[76]⟩] 9)) (And.intro (gr_alloc K.out.2 (.cells #[.string ⟨#[76]⟩] 9)) hC))
  clear hbN hC
  refine (fwith (⟨true, false, false, false, false, false, false, false, 0, 0⟩ : Flg) ⟨by decide, by decide⟩ (nmAt [⟨#[76]⟩]) _ 1 1 (by decide) (by intro i hi; match i, hi with
    | 0, _ => exact (by decide)) _ (HT.out.1.below K2.out.2.1 (Nat.le_refl _)) (HT.out.2.below K2.out.2.1 (Nat.le_refl _)) K2.out.2.2).mono ?_
  rintro e V8 ⟨rfl, h1⟩
  rw [kw1]
  clear b0 b1 b2 b3 b4 b5 b6 b7 b8 b9 bl
  have K' := Lib.hid (And.intro ((K2.out.1.call h1).alloc (.cells #[Value.bool ((⟨false, false, false, false, false, false, false, false, 0, 0⟩ : Flg)).last, .bool ((⟨false, false, false, false, false, false, false, false, 0, 0⟩ : Flg)).next, .bool ((⟨false, false, false, false, false, false, false, false, 0, 0⟩ : Flg)).chain, .bool ((⟨false, false, false, false, false, false, false, false, 0, 0⟩ : Flg)).fin, .bool ((⟨false, false, false, false, false, false, false, false, 0, 0⟩ : Flg)).forb, .bool ((⟨false, false, false, false, false, false, false, false, 0, 0⟩ : Flg)).gone, .bool ((⟨false, false, false, false, false, false, false, false, 0, 0⟩ : Flg)).app, .bool ((⟨false, false, false, false, false, false, false, false, 0, 0⟩ : Flg)).disc, .int .i64 ((⟨false, false, false, false, false, false, false, false, 0, 0⟩ : Flg)).skip, .int .i64 ((⟨false, false, false, false, false, false, false, false, 0, 0⟩ : Flg)).red] 24)) (gr_alloc (gr_call K2.out.2.1 h1) (.cells #[Value.bool ((⟨false, false, false, false, false, false, false, false, 0, 0⟩ : Flg)).last, .bool ((⟨false, false, false, false, false, false, false, false, 0, 0⟩ : Flg)).next, .bool ((⟨false, false, false, false, false, false, false, false, 0, 0⟩ : Flg)).chain, .bool ((⟨false, false, false, false, false, false, false, false, 0, 0⟩ : Flg)).fin, .bool ((⟨false, false, false, false, false, false, false, false, 0, 0⟩ : Flg)).forb, .bool ((⟨false, false, false, false, false, false, false, false, 0, 0⟩ : Flg)).gone, .bool ((⟨false, false, false, false, false, false, false, false, 0, 0⟩ : Flg)).app, .bool ((⟨false, false, false, false, false, false, false, false, 0, 0⟩ : Flg)).disc, .int .i64 ((⟨false, false, false, false, false, false, false, false, 0, 0⟩ : Flg)).skip, .int .i64 ((⟨false, false, false, false, false, false, false, false, 0, 0⟩ : Flg)).red] 24)))
  have C' := Lib.hid (((C.out.alloc (.cells #[.string ⟨#[76]⟩] 9)).call h1).alloc (.cells #[Value.bool ((⟨false, false, false, false, false, false, false, false, 0, 0⟩ : Flg)).last, .bool ((⟨false, false, false, false, false, false, false, false, 0, 0⟩ : Flg)).next, .bool ((⟨false, false, false, false, false, false, false, false, 0, 0⟩ : Flg)).chain, .bool ((⟨false, false, false, false, false, false, false, false, 0, 0⟩ : Flg)).fin, .bool ((⟨false, false, false, false, false, false, false, false, 0, 0⟩ : Flg)).forb, .bool ((⟨false, false, false, false, false, false, false, false, 0, 0⟩ : Flg)).gone, .bool ((⟨false, false, false, false, false, false, false, false, 0, 0⟩ : Flg)).app, .bool ((⟨false, false, false, false, false, false, false, false, 0, 0⟩ : Flg)).disc, .int .i64 ((⟨false, false, false, false, false, false, false, false, 0, 0⟩ : Flg)).skip, .int .i64 ((⟨false, false, false, false, false, false, false, false, 0, 0⟩ : Flg)).red] 24))
  clear C
  have C := C'
  clear C'
  clear h1 K K2
  have K := K'
  clear K'
  have b0 : (V8.alloc (.cells #[Value.bool ((⟨false, false, false, false, false, false, false, false, 0, 0⟩ : Flg)).last, .bool ((⟨false, false, false, false, false, false, false, false, 0, 0⟩ : Flg)).next, .bool ((⟨false, false, false, false, false, false, false, false, 0, 0⟩ : Flg)).chain, .bool ((⟨false, false, false, false, false, false, false, false, 0, 0⟩ : Flg)).fin, .bool ((⟨false, false, false, false, false, false, false, false, 0, 0⟩ : Flg)).forb, .bool ((⟨false, false, false, false, false, false, false, false, 0, 0⟩ : Flg)).gone, .bool ((⟨false, false, false, false, false, false, false, false, 0, 0⟩ : Flg)).app, .bool ((⟨false, false, false, false, false, false, false, false, 0, 0⟩ : Flg)).disc, .int .i64 ((⟨false, false, false, false, false, false, false, false, 0, 0⟩ : Flg)).skip, .int .i64 ((⟨false, false, false, false, false, false, false, false, 0, 0⟩ : Flg)).red] 24)).cell? ⟨w.heap.size, 0, none⟩ = some (.bool true) := K.out.1.cell' (i := 0) rfl
  have b1 : (V8.alloc (.cells #[Value.bool ((⟨false, false, false, false, false, false, false, false, 0, 0⟩ : Flg)).last, .bool ((⟨false, false, false, false, false, false, false, false, 0, 0⟩ : Flg)).next, .bool ((⟨false, false, false, false, false, false, false, false, 0, 0⟩ : Flg)).chain, .bool ((⟨false, false, false, false, false, false, false, false, 0, 0⟩ : Flg)).fin, .bool ((⟨false, false, false, false, false, false, false, false, 0, 0⟩ : Flg)).forb, .bool ((⟨false, false, false, false, false, false, false, false, 0, 0⟩ : Flg)).gone, .bool ((⟨false, false, false, false, false, false, false, false, 0, 0⟩ : Flg)).app, .bool ((⟨false, false, false, false, false, false, false, false, 0, 0⟩ : Flg)).disc, .int .i64 ((⟨false, false, false, false, false, false, false, false, 0, 0⟩ : Flg)).skip, .int .i64 ((⟨false, false, false, false, false, false, false, false, 0, 0⟩ : Flg)).red] 24)).cell? ⟨w.heap.size, 1, none⟩ = some (.bool false) := K.out.1.cell' (i := 1) rfl
  have b2 : (V8.alloc (.cells #[Value.bool ((⟨false, false, false, false, false, false, false, false, 0, 0⟩ : Flg)).last, .bool ((⟨false, false, false, false, false, false, false, false, 0, 0⟩ : Flg)).next, .bool ((⟨false, false, false, false, false, false, false, false, 0, 0⟩ : Flg)).chain, .bool ((⟨false, false, false, false, false, false, false, false, 0, 0⟩ : Flg)).fin, .bool ((⟨false, false, false, false, false, false, false, false, 0, 0⟩ : Flg)).forb, .bool ((⟨false, false, false, false, false, false, false, false, 0, 0⟩ : Flg)).gone, .bool ((⟨false, false, false, false, false, false, false, false, 0, 0⟩ : Flg)).app, .bool ((⟨false, false, false, false, false, false, false, false, 0, 0⟩ : Flg)).disc, .int .i64 ((⟨false, false, false, false, false, false, false, false, 0, 0⟩ : Flg)).skip, .int .i64 ((⟨false, false, false, false, false, false, false, false, 0, 0⟩ : Flg)).red] 24)).cell? ⟨w.heap.size, 2, none⟩ = some (.bool false) := K.out.1.cell' (i := 2) rfl
  have b3 : (V8.alloc (.cells #[Value.bool ((⟨false, false, false, false, false, false, false, false, 0, 0⟩ : Flg)).last, .bool ((⟨false, false, false, false, false, false, false, false, 0, 0⟩ : Flg)).next, .bool ((⟨false, false, false, false, false, false, false, false, 0, 0⟩ : Flg)).chain, .bool ((⟨false, false, false, false, false, false, false, false, 0, 0⟩ : Flg)).fin, .bool ((⟨false, false, false, false, false, false, false, false, 0, 0⟩ : Flg)).forb, .bool ((⟨false, false, false, false, false, false, false, false, 0, 0⟩ : Flg)).gone, .bool ((⟨false, false, false, false, false, false, false, false, 0, 0⟩ : Flg)).app, .bool ((⟨false, false, false, false, false, false, false, false, 0, 0⟩ : Flg)).disc, .int .i64 ((⟨false, false, false, false, false, false, false, false, 0, 0⟩ : Flg)).skip, .int .i64 ((⟨false, false, false, false, false, false, false, false, 0, 0⟩ : Flg)).red] 24)).cell? ⟨w.heap.size, 3, none⟩ = some (.bool false) := K.out.1.cell' (i := 3) rfl
  have b4 : (V8.alloc (.cells #[Value.bool ((⟨false, false, false, false, false, false, false, false, 0, 0⟩ : Flg)).last, .bool ((⟨false, false, false, false, false, false, false, false, 0, 0⟩ : Flg)).next, .bool ((⟨false, false, false, false, false, false, false, false, 0, 0⟩ : Flg)).chain, .bool ((⟨false, false, false, false, false, false, false, false, 0, 0⟩ : Flg)).fin, .bool ((⟨false, false, false, false, false, false, false, false, 0, 0⟩ : Flg)).forb, .bool ((⟨false, false, false, false, false, false, false, false, 0, 0⟩ : Flg)).gone, .bool ((⟨false, false, false, false, false, false, false, false, 0, 0⟩ : Flg)).app, .bool ((⟨false, false, false, false, false, false, false, false, 0, 0⟩ : Flg)).disc, .int .i64 ((⟨false, false, false, false, false, false, false, false, 0, 0⟩ : Flg)).skip, .int .i64 ((⟨false, false, false, false, false, false, false, false, 0, 0⟩ : Flg)).red] 24)).cell? ⟨w.heap.size, 4, none⟩ = some (.bool false) := K.out.1.cell' (i := 4) rfl
  have b5 : (V8.alloc (.cells #[Value.bool ((⟨false, false, false, false, false, false, false, false, 0, 0⟩ : Flg)).last, .bool ((⟨false, false, false, false, false, false, false, false, 0, 0⟩ : Flg)).next, .bool ((⟨false, false, false, false, false, false, false, false, 0, 0⟩ : Flg)).chain, .bool ((⟨false, false, false, false, false, false, false, false, 0, 0⟩ : Flg)).fin, .bool ((⟨false, false, false, false, false, false, false, false, 0, 0⟩ : Flg)).forb, .bool ((⟨false, false, false, false, false, false, false, false, 0, 0⟩ : Flg)).gone, .bool ((⟨false, false, false, false, false, false, false, false, 0, 0⟩ : Flg)).app, .bool ((⟨false, false, false, false, false, false, false, false, 0, 0⟩ : Flg)).disc, .int .i64 ((⟨false, false, false, false, false, false, false, false, 0, 0⟩ : Flg)).skip, .int .i64 ((⟨false, false, false, false, false, false, false, false, 0, 0⟩ : Flg)).red] 24)).cell? ⟨w.heap.size, 5, none⟩ = some (.bool false) := K.out.1.cell' (i := 5) rfl
  have b6 : (V8.alloc (.cells #[Value.bool ((⟨false, false, false, false, false, false, false, false, 0, 0⟩ : Flg)).last, .bool ((⟨false, false, false, false, false, false, false, false, 0, 0⟩ : Flg)).next, .bool ((⟨false, false, false, false, false, false, false, false, 0, 0⟩ : Flg)).chain, .bool ((⟨false, false, false, false, false, false, false, false, 0, 0⟩ : Flg)).fin, .bool ((⟨false, false, false, false, false, false, false, false, 0, 0⟩ : Flg)).forb, .bool ((⟨false, false, false, false, false, false, false, false, 0, 0⟩ : Flg)).gone, .bool ((⟨false, false, false, false, false, false, false, false, 0, 0⟩ : Flg)).app, .bool ((⟨false, false, false, false, false, false, false, false, 0, 0⟩ : Flg)).disc, .int .i64 ((⟨false, false, false, false, false, false, false, false, 0, 0⟩ : Flg)).skip, .int .i64 ((⟨false, false, false, false, false, false, false, false, 0, 0⟩ : Flg)).red] 24)).cell? ⟨w.heap.size, 6, none⟩ = some (.bool false) := K.out.1.cell' (i := 6) rfl
  have b7 : (V8.alloc (.cells #[Value.bool ((⟨false, false, false, false, false, false, false, false, 0, 0⟩ : Flg)).last, .bool ((⟨false, false, false, false, false, false, false, false, 0, 0⟩ : Flg)).next, .bool ((⟨false, false, false, false, false, false, false, false, 0, 0⟩ : Flg)).chain, .bool ((⟨false, false, false, false, false, false, false, false, 0, 0⟩ : Flg)).fin, .bool ((⟨false, false, false, false, false, false, false, false, 0, 0⟩ : Flg)).forb, .bool ((⟨false, false, false, false, false, false, false, false, 0, 0⟩ : Flg)).gone, .bool ((⟨false, false, false, false, false, false, false, false, 0, 0⟩ : Flg)).app, .bool ((⟨false, false, false, false, false, false, false, false, 0, 0⟩ : Flg)).disc, .int .i64 ((⟨false, false, false, false, false, false, false, false, 0, 0⟩ : Flg)).skip, .int .i64 ((⟨false, false, false, false, false, false, false, false, 0, 0⟩ : Flg)).red] 24)).cell? ⟨w.heap.size, 7, none⟩ = some (.bool false) := K.out.1.cell' (i := 7) rfl
  have b8 : (V8.alloc (.cells #[Value.bool ((⟨false, false, false, false, false, false, false, false, 0, 0⟩ : Flg)).last, .bool ((⟨false, false, false, false, false, false, false, false, 0, 0⟩ : Flg)).next, .bool ((⟨false, false, false, false, false, false, false, false, 0, 0⟩ : Flg)).chain, .bool ((⟨false, false, false, false, false, false, false, false, 0, 0⟩ : Flg)).fin, .bool ((⟨false, false, false, false, false, false, false, false, 0, 0⟩ : Flg)).forb, .bool ((⟨false, false, false, false, false, false, false, false, 0, 0⟩ : Flg)).gone, .bool ((⟨false, false, false, false, false, false, false, false, 0, 0⟩ : Flg)).app, .bool ((⟨false, false, false, false, false, false, false, false, 0, 0⟩ : Flg)).disc, .int .i64 ((⟨false, false, false, false, false, false, false, false, 0, 0⟩ : Flg)).skip, .int .i64 ((⟨false, false, false, false, false, false, false, false, 0, 0⟩ : Flg)).red] 24)).cell? ⟨w.heap.size, 8, none⟩ = some (.int .i64 0) := K.out.1.cell' (i := 8) rfl
  have b9 : (V8.alloc (.cells #[Value.bool ((⟨false, false, false, false, false, false, false, false, 0, 0⟩ : Flg)).last, .bool ((⟨false, false, false, false, false, false, false, false, 0, 0⟩ : Flg)).next, .bool ((⟨false, false, false, false, false, false, false, false, 0, 0⟩ : Flg)).chain, .bool ((⟨false, false, false, false, false, false, false, false, 0, 0⟩ : Flg)).fin, .bool ((⟨false, false, false, false, false, false, false, false, 0, 0⟩ : Flg)).forb, .bool ((⟨false, false, false, false, false, false, false, false, 0, 0⟩ : Flg)).gone, .bool ((⟨false, false, false, false, false, false, false, false, 0, 0⟩ : Flg)).app, .bool ((⟨false, false, false, false, false, false, false, false, 0, 0⟩ : Flg)).disc, .int .i64 ((⟨false, false, false, false, false, false, false, false, 0, 0⟩ : Flg)).skip, .int .i64 ((⟨false, false, false, false, false, false, false, false, 0, 0⟩ : Flg)).red] 24)).cell? ⟨w.heap.size, 9, none⟩ = some (.int .i64 0) := K.out.1.cell' (i := 9) rfl
  have bl := K.out.1.lt
  go_wp2_with (fail)
  have hbN : Blk ((V8.alloc (.cells #[Value.bool ((⟨false, false, false, false, false, false, false, false, 0, 0⟩ : Flg)).last, .bool ((⟨false, false, false, false, false, false, false, false, 0, 0⟩ : Flg)).next, .bool ((⟨false, false, false, false, false, false, false, false, 0, 0⟩ : Flg)).chain, .bool ((⟨false, false, false, false, false, false, false, false, 0, 0⟩ : Flg)).fin, .bool ((⟨false, false, false, false, false, false, false, false, 0, 0⟩ : Flg)).forb, .bool ((⟨false, false, false, false, false, false, false, false, 0, 0⟩ : Flg)).gone, .bool ((⟨false, false, false, false, false, false, false, false, 0, 0⟩ : Flg)).app, .bool ((⟨false, false, false, false, false, false, false, false, 0, 0⟩ : Flg)).disc, .int .i64 ((⟨false, false, false, false, false, false, false, false, 0, 0⟩ : Flg)).skip, .int .i64 ((⟨false, false, false, false, false, false, false, false, 0, 0⟩ : Flg)).red] 24)).alloc (.cells #[.string ⟨#[78]⟩] 9)) (V8.heap.size + 1) 9 #[.string ⟨#[78]⟩] := blk_at (by simp)
  have hC : Cells ((V8.alloc (.cells #[Value.bool ((⟨false, false, false, false, false, false, false, false, 0, 0⟩ : Flg)).last, .bool ((⟨false, false, false, false, false, false, false, false, 0, 0⟩ : Flg)).next, .bool ((⟨false, false, false, false, false, false, false, false, 0, 0⟩ : Flg)).chain, .bool ((⟨false, false, false, false, false, false, false, false, 0, 0⟩ : Flg)).fin, .bool ((⟨false, false, false, false, false, false, false, false, 0, 0⟩ : Flg)).forb, .bool ((⟨false, false, false, false, false, false, false, false, 0, 0⟩ : Flg)).gone, .bool ((⟨false, false, false, false, false, false, false, false, 0, 0⟩ : Flg)).app, .bool ((⟨false, false, false, false, false, false, false, false, 0, 0⟩ : Flg)).disc, .int .i64 ((⟨false, false, false, false, false, false, false, false, 0, 0⟩ : Flg)).skip, .int .i64 ((⟨false, false, false, false, false, false, false, false, 0, 0⟩ : Flg)).red] 24)).alloc (.cells #[.string ⟨#[78]⟩] 9)) (some ⟨V8.heap.size + 1, 0, none⟩) 1 1 (strAt (nmAt [⟨#[78]⟩])) := cells_blk hbN (fun i hi => by
    match i, hi with
    | 0, _ => rfl)
  have K2 := Lib.hid (And.intro (K.out.1.alloc (.cells #[.string ⟨#[78]⟩] 9)) (And.intro (gr_alloc K.out.2 (.cells #[.string ⟨#[78]⟩] 9)) hC))
  clear hbN hC
  refine (fwith (⟨true, false, false, false, false, false, false, false, 0, 0⟩ : Flg) ⟨by decide, by decide⟩ (nmAt [⟨#[78]⟩]) _ 1 1 (by decide) (by intro i hi; match i, hi with
    | 0, _ => exact (by decide)) _ (HT.out.1.below K2.out.2.1 (Nat.le_refl _)) (HT.out.2.below K2.out.2.1 (Nat.le_refl _)) K2.out.2.2).mono ?_
  rintro e V9 ⟨rfl, h1⟩
  rw [kw2]
  clear b0 b1 b2 b3 b4 b5 b6 b7 b8 b9 bl
  have K' := Lib.hid (And.intro ((K2.out.1.call h1).alloc (.cells #[Value.bool ((⟨false, false, false, false, false, false, false, false, 0, 0⟩ : Flg)).last, .bool ((⟨false, false, false, false, false, false, false, false, 0, 0⟩ : Flg)).next, .bool ((⟨false, false, false, false, false, false, false, false, 0, 0⟩ : Flg)).chain, .bool ((⟨false, false, false, false, false, false, false, false, 0, 0⟩ : Flg)).fin, .bool ((⟨false, false, false, false, false, false, false, false, 0, 0⟩ : Flg)).forb, .bool ((⟨false, false, false, false, false, false, false, false, 0, 0⟩ : Flg)).gone, .bool ((⟨false, false, false, false, false, false, false, false, 0, 0⟩ : Flg)).app, .bool ((⟨false, false, false, false, false, false, false, false, 0, 0⟩ : Flg)).disc, .int .i64 ((⟨false, false, false, false, false, false, false, false, 0, 0⟩ : Flg)).skip, .int .i64 ((⟨false, false, false, false, false, false, false, false, 0, 0⟩ : Flg)).red] 24)) (gr_alloc (gr_call K2.out.2.1 h1) (.cells #[Value.bool ((⟨false, false, false, false, false, false, false, false, 0, 0⟩ : Flg)).last, .bool ((⟨false, false, false, false, false, false, false, false, 0, 0⟩ : Flg)).next, .bool ((⟨false, false, false, false, false, false, false, false, 0, 0⟩ : Flg)).chain, .bool ((⟨false, false, false, false, false, false, false, false, 0, 0⟩ : Flg)).fin, .bool ((⟨false, false, false, false, false, false, false, false, 0, 0⟩ : Flg)).forb, .bool ((⟨false, false, false, false, false, false, false, false, 0, 0⟩ : Flg)).gone, .bool ((⟨false, false, false, false, false, false, false, false, 0, 0⟩ : Flg)).app, .bool ((⟨false, false, false, false, false, false, false, false, 0, 0⟩ : Flg)).disc, .int .i64 ((⟨false, false, false, false, false, false, false, false, 0, 0⟩ : Flg)).skip, .int .i64 ((⟨false, false, false, false, false, false, false, false, 0, 0⟩ : Flg)).red] 24)))
  have C' := Lib.hid (((C.out.alloc (.cells #[.string ⟨#[78]⟩] 9)).call h1).alloc (.cells #[Value.bool ((⟨false, false, false, false, false, false, false, false, 0, 0⟩ : Flg)).last, .bool ((⟨false, false, false, false, false, false, false, false, 0, 0⟩ : Flg)).next, .bool ((⟨false, false, false, false, false, false, false, false, 0, 0⟩ : Flg)).chain, .bool ((⟨false, false, false, false, false, false, false, false, 0, 0⟩ : Flg)).fin, .bool ((⟨false, false, false, false, false, false, false, false, 0, 0⟩ : Flg)).forb, .bool ((⟨false, false, false, false, false, false, false, false, 0, 0⟩ : Flg)).gone, .bool ((⟨false, false, false, false, false, false, false, false, 0, 0⟩ : Flg)).app, .bool ((⟨false, false, false, false, false, false, false, false, 0, 0⟩ : Flg)).disc, .int .i64 ((⟨false, false, false, false, false, false, false, false, 0, 0⟩ : Flg)).skip, .int .i64 ((⟨false, false, false, false, false, false, false, false, 0, 0⟩ : Flg)).red] 24))
  clear C
  have C := C'
  clear C'
  clear h1 K K2
  have K := K'
  clear K'
  have b0 : (V9.alloc (.cells #[Value.bool ((⟨false, false, false, false, false, false, false, false, 0, 0⟩ : Flg)).last, .bool ((⟨false, false, false, false, false, false, false, false, 0, 0⟩ : Flg)).next, .bool ((⟨false, false, false, false, false, false, false, false, 0, 0⟩ : Flg)).chain, .bool ((⟨false, false, false, false, false, false, false, false, 0, 0⟩ : Flg)).fin, .bool ((⟨false, false, false, false, false, false, false, false, 0, 0⟩ : Flg)).forb, .bool ((⟨false, false, false, false, false, false, false, false, 0, 0⟩ : Flg)).gone, .bool ((⟨false, false, false, false, false, false, false, false, 0, 0⟩ : Flg)).app, .bool ((⟨false, false, false, false, false, false, false, false, 0, 0⟩ : Flg)).disc, .int .i64 ((⟨false, false, false, false, false, false, false, false, 0, 0⟩ : Flg)).skip, .int .i64 ((⟨false, false, false, false, false, false, false, false, 0, 0⟩ : Flg)).red] 24)).cell? ⟨w.heap.size, 0, none⟩ = some (.bool true) := K.out.1.cell' (i := 0) rfl
  have b1 : (V9.alloc (.cells #[Value.bool ((⟨false, false, false, false, false, false, false, false, 0, 0⟩ : Flg)).last, .bool ((⟨false, false, false, false, false, false, false, false, 0, 0⟩ : Flg)).next, .bool ((⟨false, false, false, false, false, false, false, false, 0, 0⟩ : Flg)).chain, .bool ((⟨false, false, false, false, false, false, false, false, 0, 0⟩ : Flg)).fin, .bool ((⟨false, false, false, false, false, false, false, false, 0, 0⟩ : Flg)).forb, .bool ((⟨false, false, false, false, false, false, false, false, 0, 0⟩ : Flg)).gone, .bool ((⟨false, false, false, false, false, false, false, false, 0, 0⟩ : Flg)).app, .bool ((⟨false, false, false, false, false, false, false, false, 0, 0⟩ : Flg)).disc, .int .i64 ((⟨false, false, false, false, false, false, false, false, 0, 0⟩ : Flg)).skip, .int .i64 ((⟨false, false, false, false, false, false, false, false, 0, 0⟩ : Flg)).red] 24)).cell? ⟨w.heap.size, 1, none⟩ = some (.bool false) := K.out.1.cell' (i := 1) rfl
  have b2 : (V9.alloc (.cells #[Value.bool ((⟨false, false, false, false, false, false, false, false, 0, 0⟩ : Flg)).last, .bool ((⟨false, false, false, false, false, false, false, false, 0, 0⟩ : Flg)).next, .bool ((⟨false, false, false, false, false, false, false, false, 0, 0⟩ : Flg)).chain, .bool ((⟨false, false, false, false, false, false, false, false, 0, 0⟩ : Flg)).fin, .bool ((⟨false, false, false, false, false, false, false, false, 0, 0⟩ : Flg)).forb, .bool ((⟨false, false, false, false, false, false, false, false, 0, 0⟩ : Flg)).gone, .bool ((⟨false, false, false, false, false, false, false, false, 0, 0⟩ : Flg)).app, .bool ((⟨false, false, false, false, false, false, false, false, 0, 0⟩ : Flg)).disc, .int .i64 ((⟨false, false, false, false, false, false, false, false, 0, 0⟩ : Flg)).skip, .int .i64 ((⟨false, false, false, false, false, false, false, false, 0, 0⟩ : Flg)).red] 24)).cell? ⟨w.heap.size, 2, none⟩ = some (.bool false) := K.out.1.cell' (i := 2) rfl
  have b3 : (V9.alloc (.cells #[Value.bool ((⟨false, false, false, false, false, false, false, false, 0, 0⟩ : Flg)).last, .bool ((⟨false, false, false, false, false, false, false, false, 0, 0⟩ : Flg)).next, .bool ((⟨false, false, false, false, false, false, false, false, 0, 0⟩ : Flg)).chain, .bool ((⟨false, false, false, false, false, false, false, false, 0, 0⟩ : Flg)).fin, .bool ((⟨false, false, false, false, false, false, false, false, 0, 0⟩ : Flg)).forb, .bool ((⟨false, false, false, false, false, false, false, false, 0, 0⟩ : Flg)).gone, .bool ((⟨false, false, false, false, false, false, false, false, 0, 0⟩ : Flg)).app, .bool ((⟨false, false, false, false, false, false, false, false, 0, 0⟩ : Flg)).disc, .int .i64 ((⟨false, false, false, false, false, false, false, false, 0, 0⟩ : Flg)).skip, .int .i64 ((⟨false, false, false, false, false, false, false, false, 0, 0⟩ : Flg)).red] 24)).cell? ⟨w.heap.size, 3, none⟩ = some (.bool false) := K.out.1.cell' (i := 3) rfl
  have b4 : (V9.alloc (.cells #[Value.bool ((⟨false, false, false, false, false, false, false, false, 0, 0⟩ : Flg)).last, .bool ((⟨false, false, false, false, false, false, false, false, 0, 0⟩ : Flg)).next, .bool ((⟨false, false, false, false, false, false, false, false, 0, 0⟩ : Flg)).chain, .bool ((⟨false, false, false, false, false, false, false, false, 0, 0⟩ : Flg)).fin, .bool ((⟨false, false, false, false, false, false, false, false, 0, 0⟩ : Flg)).forb, .bool ((⟨false, false, false, false, false, false, false, false, 0, 0⟩ : Flg)).gone, .bool ((⟨false, false, false, false, false, false, false, false, 0, 0⟩ : Flg)).app, .bool ((⟨false, false, false, false, false, false, false, false, 0, 0⟩ : Flg)).disc, .int .i64 ((⟨false, false, false, false, false, false, false, false, 0, 0⟩ : Flg)).skip, .int .i64 ((⟨false, false, false, false, false, false, false, false, 0, 0⟩ : Flg)).red] 24)).cell? ⟨w.heap.size, 4, none⟩ = some (.bool false) := K.out.1.cell' (i := 4) rfl
  have b5 : (V9.alloc (.cells #[Value.bool ((⟨false, false, false, false, false, false, false, false, 0, 0⟩ : Flg)).last, .bool ((⟨false, false, false, false, false, false, false, false, 0, 0⟩ : Flg)).next, .bool ((⟨false, false, false, false, false, false, false, false, 0, 0⟩ : Flg)).chain, .bool ((⟨false, false, false, false, false, false, false, false, 0, 0⟩ : Flg)).fin, .bool ((⟨false, false, false, false, false, false, false, false, 0, 0⟩ : Flg)).forb, .bool ((⟨false, false, false, false, false, false, false, false, 0, 0⟩ : Flg)).gone, .bool ((⟨false, false, false, false, false, false, false, false, 0, 0⟩ : Flg)).app, .bool ((⟨false, false, false, false, false, false, false, false, 0, 0⟩ : Flg)).disc, .int .i64 ((⟨false, false, false, false, false, false, false, false, 0, 0⟩ : Flg)).skip, .int .i64 ((⟨false, false, false, false, false, false, false, false, 0, 0⟩ : Flg)).red] 24)).cell? ⟨w.heap.size, 5, none⟩ = some (.bool false) := K.out.1.cell' (i := 5) rfl
  have b6 : (V9.alloc (.cells #[Value.bool ((⟨false, false, false, false, false, false, false, false, 0, 0⟩ : Flg)).last, .bool ((⟨false, false, false, false, false, false, false, false, 0, 0⟩ : Flg)).next, .bool ((⟨false, false, false, false, false, false, false, false, 0, 0⟩ : Flg)).chain, .bool ((⟨false, false, false, false, false, false, false, false, 0, 0⟩ : Flg)).fin, .bool ((⟨false, false, false, false, false, false, false, false, 0, 0⟩ : Flg)).forb, .bool ((⟨false, false, false, false, false, false, false, false, 0, 0⟩ : Flg)).gone, .bool ((⟨false, false, false, false, false, false, false, false, 0, 0⟩ : Flg)).app, .bool ((⟨false, false, false, false, false, false, false, false, 0, 0⟩ : Flg)).disc, .int .i64 ((⟨false, false, false, false, false, false, false, false, 0, 0⟩ : Flg)).skip, .int .i64 ((⟨false, false, false, false, false, false, false, false, 0, 0⟩ : Flg)).red] 24)).cell? ⟨w.heap.size, 6, none⟩ = some (.bool false) := K.out.1.cell' (i := 6) rfl
  have b7 : (V9.alloc (.cells #[Value.bool ((⟨false, false, false, false, false, false, false, false, 0, 0⟩ : Flg)).last, .bool ((⟨false, false, false, false, false, false, false, false, 0, 0⟩ : Flg)).next, .bool ((⟨false, false, false, false, false, false, false, false, 0, 0⟩ : Flg)).chain, .bool ((⟨false, false, false, false, false, false, false, false, 0, 0⟩ : Flg)).fin, .bool ((⟨false, false, false, false, false, false, false, false, 0, 0⟩ : Flg)).forb, .bool ((⟨false, false, false, false, false, false, false, false, 0, 0⟩ : Flg)).gone, .bool ((⟨false, false, false, false, false, false, false, false, 0, 0⟩ : Flg)).app, .bool ((⟨false, false, false, false, false, false, false, false, 0, 0⟩ : Flg)).disc, .int .i64 ((⟨false, false, false, false, false, false, false, false, 0, 0⟩ : Flg)).skip, .int .i64 ((⟨false, false, false, false, false, false, false, false, 0, 0⟩ : Flg)).red] 24)).cell? ⟨w.heap.size, 7, none⟩ = some (.bool false) := K.out.1.cell' (i := 7) rfl
  have b8 : (V9.alloc (.cells #[Value.bool ((⟨false, false, false, false, false, false, false, false, 0, 0⟩ : Flg)).last, .bool ((⟨false, false, false, false, false, false, false, false, 0, 0⟩ : Flg)).next, .bool ((⟨false, false, false, false, false, false, false, false, 0, 0⟩ : Flg)).chain, .bool ((⟨false, false, false, false, false, false, false, false, 0, 0⟩ : Flg)).fin, .bool ((⟨false, false, false, false, false, false, false, false, 0, 0⟩ : Flg)).forb, .bool ((⟨false, false, false, false, false, false, false, false, 0, 0⟩ : Flg)).gone, .bool ((⟨false, false, false, false, false, false, false, false, 0, 0⟩ : Flg)).app, .bool ((⟨false, false, false, false, false, false, false, false, 0, 0⟩ : Flg)).disc, .int .i64 ((⟨false, false, false, false, false, false, false, false, 0, 0⟩ : Flg)).skip, .int .i64 ((⟨false, false, false, false, false, false, false, false, 0, 0⟩ : Flg)).red] 24)).cell? ⟨w.heap.size, 8, none⟩ = some (.int .i64 0) := K.out.1.cell' (i := 8) rfl
  have b9 : (V9.alloc (.cells #[Value.bool ((⟨false, false, false, false, false, false, false, false, 0, 0⟩ : Flg)).last, .bool ((⟨false, false, false, false, false, false, false, false, 0, 0⟩ : Flg)).next, .bool ((⟨false, false, false, false, false, false, false, false, 0, 0⟩ : Flg)).chain, .bool ((⟨false, false, false, false, false, false, false, false, 0, 0⟩ : Flg)).fin, .bool ((⟨false, false, false, false, false, false, false, false, 0, 0⟩ : Flg)).forb, .bool ((⟨false, false, false, false, false, false, false, false, 0, 0⟩ : Flg)).gone, .bool ((⟨false, false, false, false, false, false, false, false, 0, 0⟩ : Flg)).app, .bool ((⟨false, false, false, false, false, false, false, false, 0, 0⟩ : Flg)).disc, .int .i64 ((⟨false, false, false, false, false, false, false, false, 0, 0⟩ : Flg)).skip, .int .i64 ((⟨false, false, false, false, false, false, false, false, 0, 0⟩ : Flg)).red] 24)).cell? ⟨w.heap.size, 9, none⟩ = some (.int .i64 0) := K.out.1.cell' (i := 9) rfl
  have bl := K.out.1.lt
  go_wp2_with (fail)
  have hbN : Blk ((V9.alloc (.cells #[Value.bool ((⟨false, false, false, false, false, false, false, false, 0, 0⟩ : Flg)).last, .bool ((⟨false, false, false, false, false, false, false, false, 0, 0⟩ : Flg)).next, .bool ((⟨false, false, false, false, false, false, false, false, 0, 0⟩ : Flg)).chain, .bool ((⟨false, false, false, false, false, false, false, false, 0, 0⟩ : Flg)).fin, .bool ((⟨false, false, false, false, false, false, false, false, 0, 0⟩ : Flg)).forb, .bool ((⟨false, false, false, false, false, false, false, false, 0, 0⟩ : Flg)).gone, .bool ((⟨false, false, false, false, false, false, false, false, 0, 0⟩ : Flg)).app, .bool ((⟨false, false, false, false, false, false, false, false, 0, 0⟩ : Flg)).disc, .int .i64 ((⟨false, false, false, false, false, false, false, false, 0, 0⟩ : Flg)).skip, .int .i64 ((⟨false, false, false, false, false, false, false, false, 0, 0⟩ : Flg)).red] 24)).alloc (.cells #[.string ⟨#[81]⟩] 9)) (V9.heap.size + 1) 9 #[.string ⟨#[81]⟩] := blk_at (by simp)
  have hC : Cells ((V9.alloc (.cells #[Value.bool ((⟨false, false, false, false, false, false, false, false, 0, 0⟩ : Flg)).last, .bool ((⟨false, false, false, false, false, false, false, false, 0, 0⟩ : Flg)).next, .bool ((⟨false, false, false, false, false, false, false, false, 0, 0⟩ : Flg)).chain, .bool ((⟨false, false, false, false, false, false, false, false, 0, 0⟩ : Flg)).fin, .bool ((⟨false, false, false, false, false, false, false, false, 0, 0⟩ : Flg)).forb, .bool ((⟨false, false, false, false, false, false, false, false, 0, 0⟩ : Flg)).gone, .bool ((⟨false, false, false, false, false, false, false, false, 0, 0⟩ : Flg)).app, .bool ((⟨false, false, false, false, false, false, false, false, 0, 0⟩ : Flg)).disc, .int .i64 ((⟨false, false, false, false, false, false, false, false, 0, 0⟩ : Flg)).skip, .int .i64 ((⟨false, false, false, false, false, false, false, false, 0, 0⟩ : Flg)).red] 24)).alloc (.cells #[.string ⟨#[81]⟩] 9)) (some ⟨V9.heap.size + 1, 0, none⟩) 1 1 (strAt (nmAt [⟨#[81]⟩])) := cells_blk hbN (fun i hi => by
    match i, hi with
    | 0, _ => rfl)
  have K2 := Lib.hid (And.intro (K.out.1.alloc (.cells #[.string ⟨#[81]⟩] 9)) (And.intro (gr_alloc K.out.2 (.cells #[.string ⟨#[81]⟩] 9)) hC))
  clear hbN hC
  refine (fwith (⟨true, false, false, false, false, false, false, false, 0, 0⟩ : Flg) ⟨by decide, by decide⟩ (nmAt [⟨#[81]⟩]) _ 1 1 (by decide) (by intro i hi; match i, hi with
    | 0, _ => exact (by decide)) _ (HT.out.1.below K2.out.2.1 (Nat.le_refl _)) (HT.out.2.below K2.out.2.1 (Nat.le_refl _)) K2.out.2.2).mono ?_
  rintro e V10 ⟨rfl, h1⟩
  rw [kw3]
  clear b0 b1 b2 b3 b4 b5 b6 b7 b8 b9 bl
  have K' := Lib.hid (And.intro ((K2.out.1.call h1).alloc (.cells #[Value.bool ((⟨false, false, false, false, false, false, false, false, 0, 0⟩ : Flg)).last, .bool ((⟨false, false, false, false, false, false, false, false, 0, 0⟩ : Flg)).next, .bool ((⟨false, false, false, false, false, false, false, false, 0, 0⟩ : Flg)).chain, .bool ((⟨false, false, false, false, false, false, false, false, 0, 0⟩ : Flg)).fin, .bool ((⟨false, false, false, false, false, false, false, false, 0, 0⟩ : Flg)).forb, .bool ((⟨false, false, false, false, false, false, false, false, 0, 0⟩ : Flg)).gone, .bool ((⟨false, false, false, false, false, false, false, false, 0, 0⟩ : Flg)).app, .bool ((⟨false, false, false, false, false, false, false, false, 0, 0⟩ : Flg)).disc, .int .i64 ((⟨false, false, false, false, false, false, false, false, 0, 0⟩ : Flg)).skip, .int .i64 ((⟨false, false, false, false, false, false, false, false, 0, 0⟩ : Flg)).red] 24)) (gr_alloc (gr_call K2.out.2.1 h1) (.cells #[Value.bool ((⟨false, false, false, false, false, false, false, false, 0, 0⟩ : Flg)).last, .bool ((⟨false, false, false, false, false, false, false, false, 0, 0⟩ : Flg)).next, .bool ((⟨false, false, false, false, false, false, false, false, 0, 0⟩ : Flg)).chain, .bool ((⟨false, false, false, false, false, false, false, false, 0, 0⟩ : Flg)).fin, .bool ((⟨false, false, false, false, false, false, false, false, 0, 0⟩ : Flg)).forb, .bool ((⟨false, false, false, false, false, false, false, false, 0, 0⟩ : Flg)).gone, .bool ((⟨false, false, false, false, false, false, false, false, 0, 0⟩ : Flg)).app, .bool ((⟨false, false, false, false, false, false, false, false, 0, 0⟩ : Flg)).disc, .int .i64 ((⟨false, false, false, false, false, false, false, false, 0, 0⟩ : Flg)).skip, .int .i64 ((⟨false, false, false, false, false, false, false, false, 0, 0⟩ : Flg)).red] 24)))
  have C' := Lib.hid (((C.out.alloc (.cells #[.string ⟨#[81]⟩] 9)).call h1).alloc (.cells #[Value.bool ((⟨false, false, false, false, false, false, false, false, 0, 0⟩ : Flg)).last, .bool ((⟨false, false, false, false, false, false, false, false, 0, 0⟩ : Flg)).next, .bool ((⟨false, false, false, false, false, false, false, false, 0, 0⟩ : Flg)).chain, .bool ((⟨false, false, false, false, false, false, false, false, 0, 0⟩ : Flg)).fin, .bool ((⟨false, false, false, false, false, false, false, false, 0, 0⟩ : Flg)).forb, .bool ((⟨false, false, false, false, false, false, false, false, 0, 0⟩ : Flg)).gone, .bool ((⟨false, false, false, false, false, false, false, false, 0, 0⟩ : Flg)).app, .bool ((⟨false, false, false, false, false, false, false, false, 0, 0⟩ : Flg)).disc, .int .i64 ((⟨false, false, false, false, false, false, false, false, 0, 0⟩ : Flg)).skip, .int .i64 ((⟨false, false, false, false, false, false, false, false, 0, 0⟩ : Flg)).red] 24))
  clear C
  have C := C'
  clear C'
  clear h1 K K2
  have K := K'
  clear K'
  have b0 : (V10.alloc (.cells #[Value.bool ((⟨false, false, false, false, false, false, false, false, 0, 0⟩ : Flg)).last, .bool ((⟨false, false, false, false, false, false, false, false, 0, 0⟩ : Flg)).next, .bool ((⟨false, false, false, false, false, false, false, false, 0, 0⟩ : Flg)).chain, .bool ((⟨false, false, false, false, false, false, false, false, 0, 0⟩ : Flg)).fin, .bool ((⟨false, false, false, false, false, false, false, false, 0, 0⟩ : Flg)).forb, .bool ((⟨false, false, false, false, false, false, false, false, 0, 0⟩ : Flg)).gone, .bool ((⟨false, false, false, false, false, false, false, false, 0, 0⟩ : Flg)).app, .bool ((⟨false, false, false, false, false, false, false, false, 0, 0⟩ : Flg)).disc, .int .i64 ((⟨false, false, false, false, false, false, false, false, 0, 0⟩ : Flg)).skip, .int .i64 ((⟨false, false, false, false, false, false, false, false, 0, 0⟩ : Flg)).red] 24)).cell? ⟨w.heap.size, 0, none⟩ = some (.bool true) := K.out.1.cell' (i := 0) rfl
  have b1 : (V10.alloc (.cells #[Value.bool ((⟨false, false, false, false, false, false, false, false, 0, 0⟩ : Flg)).last, .bool ((⟨false, false, false, false, false, false, false, false, 0, 0⟩ : Flg)).next, .bool ((⟨false, false, false, false, false, false, false, false, 0, 0⟩ : Flg)).chain, .bool ((⟨false, false, false, false, false, false, false, false, 0, 0⟩ : Flg)).fin, .bool ((⟨false, false, false, false, false, false, false, false, 0, 0⟩ : Flg)).forb, .bool ((⟨false, false, false, false, false, false, false, false, 0, 0⟩ : Flg)).gone, .bool ((⟨false, false, false, false, false, false, false, false, 0, 0⟩ : Flg)).app, .bool ((⟨false, false, false, false, false, false, false, false, 0, 0⟩ : Flg)).disc, .int .i64 ((⟨false, false, false, false, false, false, false, false, 0, 0⟩ : Flg)).skip, .int .i64 ((⟨false, false, false, false, false, false, false, false, 0, 0⟩ : Flg)).red] 24)).cell? ⟨w.heap.size, 1, none⟩ = some (.bool false) := K.out.1.cell' (i := 1) rfl
  have b2 : (V10.alloc (.cells #[Value.bool ((⟨false, false, false, false, false, false, false, false, 0, 0⟩ : Flg)).last, .bool ((⟨false, false, false, false, false, false, false, false, 0, 0⟩ : Flg)).next, .bool ((⟨false, false, false, false, false, false, false, false, 0, 0⟩ : Flg)).chain, .bool ((⟨false, false, false, false, false, false, false, false, 0, 0⟩ : Flg)).fin, .bool ((⟨false, false, false, false, false, false, false, false, 0, 0⟩ : Flg)).forb, .bool ((⟨false, false, false, false, false, false, false, false, 0, 0⟩ : Flg)).gone, .bool ((⟨false, false, false, false, false, false, false, false, 0, 0⟩ : Flg)).app, .bool ((⟨false, false, false, false, false, false, false, false, 0, 0⟩ : Flg)).disc, .int .i64 ((⟨false, false, false, false, false, false, false, false, 0, 0⟩ : Flg)).skip, .int .i64 ((⟨false, false, false, false, false, false, false, false, 0, 0⟩ : Flg)).red] 24)).cell? ⟨w.heap.size, 2, none⟩ = some (.bool false) := K.out.1.cell' (i := 2) rfl
  have b3 : (V10.alloc (.cells #[Value.bool ((⟨false, false, false, false, false, false, false, false, 0, 0⟩ : Flg)).last, .bool ((⟨false, false, false, false, false, false, false, false, 0, 0⟩ : Flg)).next, .bool ((⟨false, false, false, false, false, false, false, false, 0, 0⟩ : Flg)).chain, .bool ((⟨false, false, false, false, false, false, false, false, 0, 0⟩ : Flg)).fin, .bool ((⟨false, false, false, false, false, false, false, false, 0, 0⟩ : Flg)).forb, .bool ((⟨false, false, false, false, false, false, false, false, 0, 0⟩ : Flg)).gone, .bool ((⟨false, false, false, false, false, false, false, false, 0, 0⟩ : Flg)).app, .bool ((⟨false, false, false, false, false, false, false, false, 0, 0⟩ : Flg)).disc, .int .i64 ((⟨false, false, false, false, false, false, false, false, 0, 0⟩ : Flg)).skip, .int .i64 ((⟨false, false, false, false, false, false, false, false, 0, 0⟩ : Flg)).red] 24)).cell? ⟨w.heap.size, 3, none⟩ = some (.bool false) := K.out.1.cell' (i := 3) rfl
  have b4 : (V10.alloc (.cells #[Value.bool ((⟨false, false, false, false, false, false, false, false, 0, 0⟩ : Flg)).last, .bool ((⟨false, false, false, false, false, false, false, false, 0, 0⟩ : Flg)).next, .bool ((⟨false, false, false, false, false, false, false, false, 0, 0⟩ : Flg)).chain, .bool ((⟨false, false, false, false, false, false, false, false, 0, 0⟩ : Flg)).fin, .bool ((⟨false, false, false, false, false, false, false, false, 0, 0⟩ : Flg)).forb, .bool ((⟨false, false, false, false, false, false, false, false, 0, 0⟩ : Flg)).gone, .bool ((⟨false, false, false, false, false, false, false, false, 0, 0⟩ : Flg)).app, .bool ((⟨false, false, false, false, false, false, false, false, 0, 0⟩ : Flg)).disc, .int .i64 ((⟨false, false, false, false, false, false, false, false, 0, 0⟩ : Flg)).skip, .int .i64 ((⟨false, false, false, false, false, false, false, false, 0, 0⟩ : Flg)).red] 24)).cell? ⟨w.heap.size, 4, none⟩ = some (.bool false) := K.out.1.cell' (i := 4) rfl
  have b5 : (V10.alloc (.cells #[Value.bool ((⟨false, false, false, false, false, false, false, false, 0, 0⟩ : Flg)).last, .bool ((⟨false, false, false, false, false, false, false, false, 0, 0⟩ : Flg)).next, .bool ((⟨false, false, false, false, false, false, false, false, 0, 0⟩ : Flg)).chain, .bool ((⟨false, false, false, false, false, false, false, false, 0, 0⟩ : Flg)).fin, .bool ((⟨false, false, false, false, false, false, false, false, 0, 0⟩ : Flg)).forb, .bool ((⟨false, false, false, false, false, false, false, false, 0, 0⟩ : Flg)).gone, .bool ((⟨false, false, false, false, false, false, false, false, 0, 0⟩ : Flg)).app, .bool ((⟨false, false, false, false, false, false, false, false, 0, 0⟩ : Flg)).disc, .int .i64 ((⟨false, false, false, false, false, false, false, false, 0, 0⟩ : Flg)).skip, .int .i64 ((⟨false, false, false, false, false, false, false, false, 0, 0⟩ : Flg)).red] 24)).cell? ⟨w.heap.size, 5, none⟩ = some (.bool false) := K.out.1.cell' (i := 5) rfl
  have b6 : (V10.alloc (.cells #[Value.bool ((⟨false, false, false, false, false, false, false, false, 0, 0⟩ : Flg)).last, .bool ((⟨false, false, false, false, false, false, false, false, 0, 0⟩ : Flg)).next, .bool ((⟨false, false, false, false, false, false, false, false, 0, 0⟩ : Flg)).chain, .bool ((⟨false, false, false, false, false, false, false, false, 0, 0⟩ : Flg)).fin, .bool ((⟨false, false, false, false, false, false, false, false, 0, 0⟩ : Flg)).forb, .bool ((⟨false, false, false, false, false, false, false, false, 0, 0⟩ : Flg)).gone, .bool ((⟨false, false, false, false, false, false, false, false, 0, 0⟩ : Flg)).app, .bool ((⟨false, false, false, false, false, false, false, false, 0, 0⟩ : Flg)).disc, .int .i64 ((⟨false, false, false, false, false, false, false, false, 0, 0⟩ : Flg)).skip, .int .i64 ((⟨false, false, false, false, false, false, false, false, 0, 0⟩ : Flg)).red] 24)).cell? ⟨w.heap.size, 6, none⟩ = some (.bool false) := K.out.1.cell' (i := 6) rfl
  have b7 : (V10.alloc (.cells #[Value.bool ((⟨false, false, false, false, false, false, false, false, 0, 0⟩ : Flg)).last, .bool ((⟨false, false, false, false, false, false, false, false, 0, 0⟩ : Flg)).next, .bool ((⟨false, false, false, false, false, false, false, false, 0, 0⟩ : Flg)).chain, .bool ((⟨false, false, false, false, false, false, false, false, 0, 0⟩ : Flg)).fin, .bool ((⟨false, false, false, false, false, false, false, false, 0, 0⟩ : Flg)).forb, .bool ((⟨false, false, false, false, false, false, false, false, 0, 0⟩ : Flg)).gone, .bool ((⟨false, false, false, false, false, false, false, false, 0, 0⟩ : Flg)).app, .bool ((⟨false, false, false, false, false, false, false, false, 0, 0⟩ : Flg)).disc, .int .i64 ((⟨false, false, false, false, false, false, false, false, 0, 0⟩ : Flg)).skip, .int .i64 ((⟨false, false, false, false, false, false, false, false, 0, 0⟩ : Flg)).red] 24)).cell? ⟨w.heap.size, 7, none⟩ = some (.bool false) := K.out.1.cell' (i := 7) rfl
  have b8 : (V10.alloc (.cells #[Value.bool ((⟨false, false, false, false, false, false, false, false, 0, 0⟩ : Flg)).last, .bool ((⟨false, false, false, false, false, false, false, false, 0, 0⟩ : Flg)).next, .bool ((⟨false, false, false, false, false, false, false, false, 0, 0⟩ : Flg)).chain, .bool ((⟨false, false, false, false, false, false, false, false, 0, 0⟩ : Flg)).fin, .bool ((⟨false, false, false, false, false, false, false, false, 0, 0⟩ : Flg)).forb, .bool ((⟨false, false, false, false, false, false, false, false, 0, 0⟩ : Flg)).gone, .bool ((⟨false, false, false, false, false, false, false, false, 0, 0⟩ : Flg)).app, .bool ((⟨false, false, false, false, false, false, false, false, 0, 0⟩ : Flg)).disc, .int .i64 ((⟨false, false, false, false, false, false, false, false, 0, 0⟩ : Flg)).skip, .int .i64 ((⟨false, false, false, false, false, false, false, false, 0, 0⟩ : Flg)).red] 24)).cell? ⟨w.heap.size, 8, none⟩ = some (.int .i64 0) := K.out.1.cell' (i := 8) rfl
  have b9 : (V10.alloc (.cells #[Value.bool ((⟨false, false, false, false, false, false, false, false, 0, 0⟩ : Flg)).last, .bool ((⟨false, false, false, false, false, false, false, false, 0, 0⟩ : Flg)).next, .bool ((⟨false, false, false, false, false, false, false, false, 0, 0⟩ : Flg)).chain, .bool ((⟨false, false, false, false, false, false, false, false, 0, 0⟩ : Flg)).fin, .bool ((⟨false, false, false, false, false, false, false, false, 0, 0⟩ : Flg)).forb, .bool ((⟨false, false, false, false, false, false, false, false, 0, 0⟩ : Flg)).gone, .bool ((⟨false, false, false, false, false, false, false, false, 0, 0⟩ : Flg)).app, .bool ((⟨false, false, false, false, false, false, false, false, 0, 0⟩ : Flg)).disc, .int .i64 ((⟨false, false, false, false, false, false, false, false, 0, 0⟩ : Flg)).skip, .int .i64 ((⟨false, false, false, false, false, false, false, false, 0, 0⟩ : Flg)).red] 24)).cell? ⟨w.heap.size, 9, none⟩ = some (.int .i64 0) := K.out.1.cell' (i := 9) rfl
  have bl := K.out.1.lt
  go_wp2_with (fail)
  refine (lreads ⟨#[91, 76, 93]⟩ (⟨true, false, false, false, false, false, false, false, 0, 0⟩ : Flg) (by decide) kr0 _ (HT.out.1.below K.out.2 (Nat.le_refl _)) (HT.out.2.below K.out.2 (Nat.le_refl _))).mono ?_
  rintro e V11 ⟨rfl, h1⟩
  clear b0 b1 b2 b3 b4 b5 b6 b7 b8 b9 bl
  have C' := Lib.hid (C.out.call h1)
  clear C
  have C := C'
  clear C'
  have K' := Lib.hid (And.intro (K.out.1.call h1) (gr_call K.out.2 h1))
  clear h1 K
  have K := K'
  clear K'
  go_wp2_with (fail)
  refine (lreads ⟨#[91, 83, 61, 51, 93]⟩ (⟨false, false, false, false, false, false, false, false, 3, 0⟩ : Flg) (by decide) kr1 _ (HT.out.1.below K.out.2 (Nat.le_refl _)) (HT.out.2.below K.out.2 (Nat.le_refl _))).mono ?_
  rintro e V12 ⟨rfl, h1⟩
  have C' := Lib.hid (C.out.call h1)
  clear C
  have C := C'
  clear C'
  have K' := Lib.hid (And.intro (K.out.1.call h1) (gr_call K.out.2 h1))
  clear h1 K
  have K := K'
  clear K'
  go_wp2_with (fail)
  refine (lreads ⟨#[]⟩ (⟨false, false, false, false, false, false, false, false, 0, 0⟩ : Flg) (by decide) kr2 _ (HT.out.1.below K.out.2 (Nat.le_refl _)) (HT.out.2.below K.out.2 (Nat.le_refl _))).mono ?_
  rintro e V13 ⟨rfl, h1⟩
  have C' := Lib.hid (C.out.call h1)
  clear C
  have C := C'
  clear C'
  have K' := Lib.hid (And.intro (K.out.1.call h1) (gr_call K.out.2 h1))
  clear h1 K
  have K := K'
  clear K'
  go_wp2_with (fail)
  refine (lfails ⟨#[76]⟩ 3 0 (by decide) kf0 _ (HT.out.1.below K.out.2 (Nat.le_refl _)) (HT.out.2.below K.out.2 (Nat.le_refl _))).mono ?_
  rintro e V14 ⟨rfl, h1⟩
  have C' := Lib.hid (C.out.call h1)
  clear C
  have C := C'
  clear C'
  have K' := Lib.hid (And.intro (K.out.1.call h1) (gr_call K.out.2 h1))
  clear h1 K
  have K := K'
  clear K'
  go_wp2_with (fail)
  refine (lfails ⟨#[91, 76]⟩ 3 1 (by decide) kf1 _ (HT.out.1.below K.out.2 (Nat.le_refl _)) (HT.out.2.below K.out.2 (Nat.le_refl _))).mono ?_
  rintro e V15 ⟨rfl, h1⟩
  have C' := Lib.hid (C.out.call h1)
  clear C
  have C := C'
  clear C'
  have K' := Lib.hid (And.intro (K.out.1.call h1) (gr_call K.out.2 h1))
  clear h1 K
  have K := K'
  clear K'
  go_wp2_with (fail)
  refine (lfails ⟨#[91, 93]⟩ 11 1 (by decide) kf2 _ (HT.out.1.below K.out.2 (Nat.le_refl _)) (HT.out.2.below K.out.2 (Nat.le_refl _))).mono ?_
  rintro e V16 ⟨rfl, h1⟩
  have C' := Lib.hid (C.out.call h1)
  clear C
  have C := C'
  clear C'
  have K' := Lib.hid (And.intro (K.out.1.call h1) (gr_call K.out.2 h1))
  clear h1 K
  have K := K'
  clear K'
  go_wp2_with (fail)
  refine (lfails ⟨#[91, 83, 61, 93]⟩ 3 1 (by decide) kf3 _ (HT.out.1.below K.out.2 (Nat.le_refl _)) (HT.out.2.below K.out.2 (Nat.le_refl _))).mono ?_
  rintro e V17 ⟨rfl, h1⟩
  have C' := Lib.hid (C.out.call h1)
  clear C
  have C := C'
  clear C'
  have K' := Lib.hid (And.intro (K.out.1.call h1) (gr_call K.out.2 h1))
  clear h1 K
  have K := K'
  clear K'
  go_wp2_with (fail)
  refine (lfails ⟨#[91, 83, 61, 48, 51, 93]⟩ 3 1 (by decide) kf4 _ (HT.out.1.below K.out.2 (Nat.le_refl _)) (HT.out.2.below K.out.2 (Nat.le_refl _))).mono ?_
  rintro e V18 ⟨rfl, h1⟩
  have C' := Lib.hid (C.out.call h1)
  clear C
  have C := C'
  clear C'
  have K' := Lib.hid (And.intro (K.out.1.call h1) (gr_call K.out.2 h1))
  clear h1 K
  have K := K'
  clear K'
  go_wp2_with (fail)
  refine (lfails ⟨#[91, 76, 44, 76, 93]⟩ 7 3 (by decide) kf5 _ (HT.out.1.below K.out.2 (Nat.le_refl _)) (HT.out.2.below K.out.2 (Nat.le_refl _))).mono ?_
  rintro e V19 ⟨rfl, h1⟩
  have C' := Lib.hid (C.out.call h1)
  clear C
  have C := C'
  clear C'
  have K' := Lib.hid (And.intro (K.out.1.call h1) (gr_call K.out.2 h1))
  clear h1 K
  have K := K'
  clear K'
  go_wp2_with (fail)
  refine (lfails ⟨#[91, 83, 61, 48, 93]⟩ 2 0 (by decide) kf6 _ (HT.out.1.below K.out.2 (Nat.le_refl _)) (HT.out.2.below K.out.2 (Nat.le_refl _))).mono ?_
  rintro e V20 ⟨rfl, h1⟩
  have C' := Lib.hid (C.out.call h1)
  clear C
  have C := C'
  clear C'
  have K' := Lib.hid (And.intro (K.out.1.call h1) (gr_call K.out.2 h1))
  clear h1 K
  have K := K'
  clear K'
  go_wp2_with (fail)
  refine (lfails ⟨#[91, 83, 61, 54, 52, 93]⟩ 2 0 (by decide) kf7 _ (HT.out.1.below K.out.2 (Nat.le_refl _)) (HT.out.2.below K.out.2 (Nat.le_refl _))).mono ?_
  rintro e V21 ⟨rfl, h1⟩
  have C' := Lib.hid (C.out.call h1)
  clear C
  have C := C'
  clear C'
  have K' := Lib.hid (And.intro (K.out.1.call h1) (gr_call K.out.2 h1))
  clear h1 K
  have K := K'
  clear K'
  go_wp2_with (fail)
  refine (lfails ⟨#[91, 82, 61, 51, 48, 48, 93]⟩ 2 0 (by decide) kf8 _ (HT.out.1.below K.out.2 (Nat.le_refl _)) (HT.out.2.below K.out.2 (Nat.le_refl _))).mono ?_
  rintro e V22 ⟨rfl, h1⟩
  have C' := Lib.hid (C.out.call h1)
  clear C
  have C := C'
  clear C'
  have K' := Lib.hid (And.intro (K.out.1.call h1) (gr_call K.out.2 h1))
  clear h1 K
  have K := K'
  clear K'
  go_wp2_with (fail)
  refine (lfails ⟨#[91, 76, 44, 78, 93]⟩ 15 0 (by decide) kf9 _ (HT.out.1.below K.out.2 (Nat.le_refl _)) (HT.out.2.below K.out.2 (Nat.le_refl _))).mono ?_
  rintro e V23 ⟨rfl, h1⟩
  have C' := Lib.hid (C.out.call h1)
  clear C
  have C := C'
  clear C'
  have K' := Lib.hid (And.intro (K.out.1.call h1) (gr_call K.out.2 h1))
  clear h1 K
  have K := K'
  clear K'
  go_wp2_with (fail)
  refine (lfails ⟨#[91, 65, 44, 68, 93]⟩ 15 0 (by decide) kf10 _ (HT.out.1.below K.out.2 (Nat.le_refl _)) (HT.out.2.below K.out.2 (Nat.le_refl _))).mono ?_
  rintro e V24 ⟨rfl, h1⟩
  have C' := Lib.hid (C.out.call h1)
  clear C
  have C := C'
  clear C'
  have K' := Lib.hid (And.intro (K.out.1.call h1) (gr_call K.out.2 h1))
  clear h1 K
  have K := K'
  clear K'
  go_wp2_with (fail)
  refine (lfails ⟨#[91, 65, 44, 70, 93]⟩ 15 0 (by decide) kf11 _ (HT.out.1.below K.out.2 (Nat.le_refl _)) (HT.out.2.below K.out.2 (Nat.le_refl _))).mono ?_
  rintro e V25 ⟨rfl, h1⟩
  have C' := Lib.hid (C.out.call h1)
  clear C
  have C := C'
  clear C'
  have K' := Lib.hid (And.intro (K.out.1.call h1) (gr_call K.out.2 h1))
  clear h1 K
  have K := K'
  clear K'
  go_wp2_with (fail)
  refine (awake _ (HT.out.1.below K.out.2 (Nat.le_refl _)) (HT.out.2.below K.out.2 (Nat.le_refl _))).mono ?_
  rintro e V26 ⟨rfl, h1⟩
  have C' := Lib.hid (C.out.call h1)
  clear C
  have C := C'
  clear C'
  have K' := Lib.hid (And.intro (K.out.1.call h1) (gr_call K.out.2 h1))
  clear h1 K
  have K := K'
  clear K'
  have c0 : V26.cell? ⟨V7.heap.size, 0, none⟩ = some (.bool false) := C.out.cell' (i := 0) rfl
  have c1 : V26.cell? ⟨V7.heap.size, 1, none⟩ = some (.bool false) := C.out.cell' (i := 1) rfl
  have c2 : V26.cell? ⟨V7.heap.size, 2, none⟩ = some (.bool false) := C.out.cell' (i := 2) rfl
  have c3 : V26.cell? ⟨V7.heap.size, 3, none⟩ = some (.bool false) := C.out.cell' (i := 3) rfl
  have c4 : V26.cell? ⟨V7.heap.size, 4, none⟩ = some (.bool false) := C.out.cell' (i := 4) rfl
  have c5 : V26.cell? ⟨V7.heap.size, 5, none⟩ = some (.bool false) := C.out.cell' (i := 5) rfl
  have c6 : V26.cell? ⟨V7.heap.size, 6, none⟩ = some (.bool true) := C.out.cell' (i := 6) rfl
  have c7 : V26.cell? ⟨V7.heap.size, 7, none⟩ = some (.bool false) := C.out.cell' (i := 7) rfl
  have c8 : V26.cell? ⟨V7.heap.size, 8, none⟩ = some (.int .i64 0) := C.out.cell' (i := 8) rfl
  have c9 : V26.cell? ⟨V7.heap.size, 9, none⟩ = some (.int .i64 308) := C.out.cell' (i := 9) rfl
  have cl := C.out.lt
  have hq := fun W => eqFlg (⟨false, false, false, false, false, false, true, false, 0, 308⟩ : Flg) W
  go_wp2_with (fail)
  refine (fcodes _ (HT.out.1.below K.out.2 (Nat.le_refl _))).mono ?_
  rintro e V27 ⟨A, c, rfl, hc, h1⟩
  clear c0 c1 c2 c3 c4 c5 c6 c7 c8 c9 cl hq
  have hbN := Blk.new V27 3 #[.int .i64 301, .int .i64 302, .int .i64 303, .int .i64 307, .int .i64 308]
  have hC2 : Cells (V27.alloc (.cells #[.int .i64 301, .int .i64 302, .int .i64 303, .int .i64 307, .int .i64 308] 3)) (some ⟨V27.heap.size, 0, none⟩) 1 5 (intsAt codesL) := cells_blk hbN (fun i hi => by
    match i, hi with
    | 0, _ => rfl
    | 1, _ => rfl
    | 2, _ => rfl
    | 3, _ => rfl
    | 4, _ => rfl)
  have hbl := gr_alloc (gr_call K.out.2 h1) (.cells #[.int .i64 301, .int .i64 302, .int .i64 303, .int .i64 307, .int .i64 308] 3)
  have K' := Lib.hid (And.intro (hc.below (gr_alloc (Below.refl _ _) (.cells #[.int .i64 301, .int .i64 302, .int .i64 303, .int .i64 307, .int .i64 308] 3))) (And.intro hC2 hbl))
  clear h1 K hc hbN hC2 hbl C
  go_wp2_with (fail)
  refine (sameCodes A _ c _ _ K'.out.1 K'.out.2.1).mono ?_
  rintro e VZ ⟨rfl, h1⟩
  have H1 := Lib.hid (gr_call K'.out.2.2 h1)
  clear h1 K'
  go_wp2_with (fail)
  go_ret
  exact ⟨rfl, H1.out⟩
end Go.Proofs.YtlipjagdlpkjpaaDoor
