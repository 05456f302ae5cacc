/-
  awake, FlagReads, FlagAdds, FlagChecks, walked; conditions: the two tables lie as they are laid, a variable of the library is an int.
-/
import Derived.Test.YtlipjagdlpkjpaaDoorFtU
import Derived.Test.YtlipjagdlpkjpaaDoorKin
import Derived.KernelRfl
namespace Go.Proofs.YtlipjagdlpkjpaaDoor
open Go.RowKit Go.Joins
set_option linter.unusedVariables false
set_option linter.unusedSimpArgs false

def fA301 : Flg := ⟨false, false, false, false, false, false, true, false, 0, 301⟩
def fChain : Flg := ⟨false, false, true, false, false, false, false, false, 0, 0⟩
def fR302 : Flg := ⟨false, false, false, false, false, false, false, false, 0, 302⟩
def fLN : Flg := ⟨true, true, false, false, false, false, false, false, 0, 0⟩
def sA301 : ByteArray := ⟨#[91, 65, 44, 82, 61, 51, 48, 49, 93]⟩
theorem tA301 : textV fA301 = sA301 := by decide +kernel
theorem cA301 : chkF fA301 = 0 := by decide +kernel
theorem cChain : chkF fChain = 0 := by decide +kernel
theorem bChain : stillB fChain = true := by decide +kernel
theorem cLN : chkF fLN = 15 := by decide +kernel
theorem pR302 : parseS ⟨#[91, 82, 93]⟩ = (fR302, 0, 0) := by kernel_rfl
theorem pA301 : parseS sA301 = (fA301, 0, 0) := by kernel_rfl
theorem pLX : parseS ⟨#[91, 76, 44, 88, 93]⟩ = (zeroF, 11, 3) := by kernel_rfl

set_option maxRecDepth 100000 in
set_option maxHeartbeats 2000000 in
theorem awake (w : World) (hT : Tabs w) (hm : MaxOk w) :
    Calls Tryd.prog 9 #[] w fun e W' => e = .returned (.bool true) ∧ Below w.heap.size w W' := by
  have HT := Lib.hid (And.intro hT hm)
  clear hT hm
  go_enter Tryd.func9, Tryd.ntmps9
  go_wp2_with (fail)
  refine (ftext fA301 (by decide) _ HT.out.1 HT.out.2).mono ?_
  rintro e W1 ⟨rfl, h1⟩
  rw [tA301, cA301]
  have H1 := Lib.hid h1
  clear h1
  unfold sA301
  go_wp2_with (fail)
  refine (fstill fChain (by decide) _ (HT.out.1.below H1.out (Nat.le_refl _))).mono ?_
  rintro e W2 ⟨rfl, h2⟩
  rw [bChain, cChain]
  have H2 := Lib.hid (gr_call H1.out h2)
  clear h2
  go_wp2_with (fail)
  refine (lreads ⟨#[91, 82, 93]⟩ fR302 (by decide) pR302 _ (HT.out.1.below H2.out (Nat.le_refl _)) (HT.out.2.below H2.out (Nat.le_refl _))).mono ?_
  rintro e W3 ⟨rfl, h3⟩
  have H3 := Lib.hid (gr_call H2.out h3)
  clear h3
  go_wp2_with (fail)
  refine (lreads sA301 fA301 (by decide) pA301 _ (HT.out.1.below H3.out (Nat.le_refl _)) (HT.out.2.below H3.out (Nat.le_refl _))).mono ?_
  rintro e W4 ⟨rfl, h4⟩
  have H4 := Lib.hid (gr_call H3.out h4)
  clear h4
  go_wp2_with (fail)
  refine (lfails ⟨#[91, 76, 44, 88, 93]⟩ 11 3 (by decide) pLX _ (HT.out.1.below H4.out (Nat.le_refl _)) (HT.out.2.below H4.out (Nat.le_refl _))).mono ?_
  rintro e W5 ⟨rfl, h5⟩
  have H5 := Lib.hid (gr_call H4.out h5)
  clear h5
  go_wp2_with (fail)
  refine (fcheck fLN (by decide) _ (HT.out.1.below H5.out (Nat.le_refl _))).mono ?_
  rintro e W6 ⟨rfl, h6⟩
  rw [cLN]
  have H6 := Lib.hid (gr_call H5.out h6)
  clear h6
  go_wp2_with (fail)
  go_ret
  exact ⟨rfl, H6.out⟩


set_option maxRecDepth 100000 in
set_option maxHeartbeats 2000000 in
theorem law_reads (s : ByteArray) (hs : s.size ≤ 9223372036854775807) (w : World) (hT : Tabs w) (hm : MaxOk w) :
    Calls Tryd.prog 3 #[.string s] w fun e W' => e = .returned (.bool true) ∧ Below w.heap.size w W' := by
  have HT := Lib.hid (And.intro hT hm)
  clear hT hm
  go_enter Tryd.func3, Tryd.ntmps3
  by_cases hh : (100 : Int) < (s.size : Int)
  · go_wp2_with (fail)
    refine (awake _ HT.out.1 HT.out.2).mono ?_
    rintro e W1 ⟨rfl, h1⟩
    have H1 := Lib.hid h1
    clear h1
    go_wp2_with (fail)
    go_ret
    exact ⟨rfl, H1.out⟩
  · have hz : s.size ≤ 1000000 := by omega
    go_wp2_with (fail)
    refine (fparse s hz _ HT.out.1 HT.out.2).mono ?_
    rintro e W1 ⟨rfl, h1⟩
    obtain ⟨r, hr⟩ : ∃ r, r = parseS s := ⟨_, rfl⟩
    rw [← hr]
    have HR := Lib.hid hr
    clear hr
    have hq := fun W => eqFlg r.1 W
    have hq2 := fun W => eqFlt r.2.1 (r.2.2 : Int) W
    have y1 := (Blk.new W1 24 #[Value.bool r.1.last, .bool r.1.next, .bool r.1.chain, .bool r.1.fin, .bool r.1.forb, .bool r.1.gone, .bool r.1.app, .bool r.1.disc, .int .i64 r.1.skip, .int .i64 r.1.red]).alloc (.cells #[.int .i64 r.2.1, .int .i64 (r.2.2 : Int)] 27)
    have y2 := Blk.new (W1.alloc (.cells #[Value.bool r.1.last, .bool r.1.next, .bool r.1.chain, .bool r.1.fin, .bool r.1.forb, .bool r.1.gone, .bool r.1.app, .bool r.1.disc, .int .i64 r.1.skip, .int .i64 r.1.red] 24)) 27 #[.int .i64 r.2.1, .int .i64 (r.2.2 : Int)]
    rw [show (W1.alloc (.cells #[Value.bool r.1.last, .bool r.1.next, .bool r.1.chain, .bool r.1.fin, .bool r.1.forb, .bool r.1.gone, .bool r.1.app, .bool r.1.disc, .int .i64 r.1.skip, .int .i64 r.1.red] 24)).heap.size = W1.heap.size + 1 by simp] at y2
    have H1 := Lib.hid (And.intro y1 (And.intro y2 (gr_alloc (gr_alloc h1 (.cells #[Value.bool r.1.last, .bool r.1.next, .bool r.1.chain, .bool r.1.fin, .bool r.1.forb, .bool r.1.gone, .bool r.1.app, .bool r.1.disc, .int .i64 r.1.skip, .int .i64 r.1.red] 24)) (.cells #[.int .i64 r.2.1, .int .i64 (r.2.2 : Int)] 27))))
    clear h1 y1 y2
    go_wp2_with (fail)
    refine (rparse s hz _).mono ?_
    rintro e W2 ⟨rfl, h2⟩
    rw [← HR.out]
    have y1 := H1.out.1.call h2
    have y2 := H1.out.2.1.call h2
    have l1 := y1.lt
    have l2 := y2.lt
    have k0 := y1.cell' (i := 0) rfl
    have k1 := y1.cell' (i := 1) rfl
    have k2 := y1.cell' (i := 2) rfl
    have k3 := y1.cell' (i := 3) rfl
    have k4 := y1.cell' (i := 4) rfl
    have k5 := y1.cell' (i := 5) rfl
    have k6 := y1.cell' (i := 6) rfl
    have k7 := y1.cell' (i := 7) rfl
    have k8 := y1.cell' (i := 8) rfl
    have k9 := y1.cell' (i := 9) rfl
    have m0 := y2.cell' (i := 0) rfl
    have m1 := y2.cell' (i := 1) rfl
    simp only [List.getElem_toArray, List.getElem_cons_zero, List.getElem_cons_succ] at k0 k1 k2 k3 k4 k5 k6 k7 k8 k9 m0 m1
    have H2 := Lib.hid (gr_alloc (gr_alloc (gr_call H1.out.2.2 h2) (.cells #[Value.bool r.1.last, .bool r.1.next, .bool r.1.chain, .bool r.1.fin, .bool r.1.forb, .bool r.1.gone, .bool r.1.app, .bool r.1.disc, .int .i64 r.1.skip, .int .i64 r.1.red] 24)) (.cells #[.int .i64 r.2.1, .int .i64 (r.2.2 : Int)] 27))
    clear h2 y1 y2
    go_wp2_with (fail)
    refine (awake _ (HT.out.1.below H2.out (Nat.le_refl _)) (HT.out.2.below H2.out (Nat.le_refl _))).mono ?_
    rintro e W5 ⟨rfl, h5⟩
    have H5 := Lib.hid (gr_call H2.out h5)
    clear h5
    go_wp2_with (fail)
    go_ret
    exact ⟨rfl, H5.out⟩
end Go.Proofs.YtlipjagdlpkjpaaDoor
