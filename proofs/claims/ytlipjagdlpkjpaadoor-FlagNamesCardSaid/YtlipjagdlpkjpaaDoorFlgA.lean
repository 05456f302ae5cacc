/-
  flag.code, ways and Check, walked: the plain functions; condition: the two tables lie as they are laid.
-/
import Derived.Test.YtlipjagdlpkjpaaDoorFlg
import Derived.Test.YtlipjagdlpkjpaaDoorShelf
import Derived.Test.YtlipjagdlpkjpaaDoorProg
import Derived.Lib.LaidTab
import Derived.Lib.SmallJoins
import Derived.KernelRfl
namespace Go.Proofs.YtlipjagdlpkjpaaDoor
open Go.RowKit Go.Joins
set_option linter.unusedVariables false
set_option linter.unusedSimpArgs false

/-- The tables that the walks read. -/
def Tabs (w : World) : Prop := Lib.TabIs Tryd.prog w "waypost/flag.codes" .i64 [301, 302, 303, 307, 308] ∧ Lib.TabIs Tryd.prog w "internal/strconv.uint64pow10" .u64 Lib.pow10Tab
theorem gCodes : Tryd.prog.globalNamed "waypost/flag.codes" = some 0 := by kernel_rfl
theorem gPow : Tryd.prog.globalNamed "internal/strconv.uint64pow10" = some 4 := by kernel_rfl
theorem Tabs.below {w w' : World} {B : Nat} (h : Tabs w) (hb : Below B w w') (hB : w.heap.size ≤ B) : Tabs w' := ⟨tab_stays gCodes h.1 hb hB, tab_stays gPow h.2 hb hB⟩
theorem infoStr : (Tryd.prog.info? 9).map (fun i => (i.zero, i.size, i.bytes)) = some (some (.string ⟨#[]⟩), 1, 16) := by kernel_rfl

theorem info_parts {P : Program} {t : TypeId} {z : Value} {s b : Nat} (h : (P.info? t).map (fun i => (i.zero, i.size, i.bytes)) = some (some z, s, b)) : ∃ i, P.info? t = some i ∧ i.zero = some z ∧ i.size = s ∧ i.bytes = b := by
  cases hi : P.info? t with
  | none => rw [hi] at h; cases h
  | some i =>
    rw [hi] at h
    simp only [Option.map_some, Option.some.injEq, Prod.mk.injEq] at h
    exact ⟨i, rfl, h.1, h.2.1, h.2.2⟩

def codeAt (k : Nat) : Int := ([301, 302, 303, 307, 308] : List Int).getD k 0
theorem idx_codes (k : Nat) (hk : k < 5) (w : World) : (Instr.index 66 (.agg #[.int .i64 301, .int .i64 302, .int .i64 303, .int .i64 307, .int .i64 308]) (.int .i64 (k : Int))).run Tryd.prog w = .ok (.int .i64 (codeAt k)) w := by
  have h : k = 0 ∨ k = 1 ∨ k = 2 ∨ k = 3 ∨ k = 4 := by omega
  rcases h with rfl | rfl | rfl | rfl | rfl
  · show (Instr.index 66 _ (.int .i64 0)).run Tryd.prog w = .ok (.int .i64 301) w
    kernel_rfl
  · show (Instr.index 66 _ (.int .i64 1)).run Tryd.prog w = .ok (.int .i64 302) w
    kernel_rfl
  · show (Instr.index 66 _ (.int .i64 2)).run Tryd.prog w = .ok (.int .i64 303) w
    kernel_rfl
  · show (Instr.index 66 _ (.int .i64 3)).run Tryd.prog w = .ok (.int .i64 307) w
    kernel_rfl
  · show (Instr.index 66 _ (.int .i64 4)).run Tryd.prog w = .ok (.int .i64 308) w
    kernel_rfl
theorem codeR_at {n : Int} {k : Nat} (hk : k < 5) (h : codeAt k = n) : codeR n = true := by
  subst h
  have h : k = 0 ∨ k = 1 ∨ k = 2 ∨ k = 3 ∨ k = 4 := by omega
  rcases h with rfl | rfl | rfl | rfl | rfl <;> rfl
theorem codeR_no {n : Int} (h : ∀ j, j < 5 → codeAt j ≠ n) : codeR n = false := by
  have h0 : (301 : Int) ≠ n := h 0 (by decide)
  have h1 : (302 : Int) ≠ n := h 1 (by decide)
  have h2 : (303 : Int) ≠ n := h 2 (by decide)
  have h3 : (307 : Int) ≠ n := h 3 (by decide)
  have h4 : (308 : Int) ≠ n := h 4 (by decide)
  unfold codeR
  rw [beq_eq_false_iff_ne.2 (Ne.symm h0), beq_eq_false_iff_ne.2 (Ne.symm h1), beq_eq_false_iff_ne.2 (Ne.symm h2), beq_eq_false_iff_ne.2 (Ne.symm h3), beq_eq_false_iff_ne.2 (Ne.symm h4)]
  rfl
def CodeRel (n : Int) (w : World) (i : Value) (wr : World) : Prop := wr = w ∧ ∃ k : Nat, k ≤ 5 ∧ i = .int .i64 (k : Int) ∧ ∀ j, j < k → codeAt j ≠ n

set_option maxRecDepth 100000 in
set_option maxHeartbeats 2000000 in
theorem fcode (n : Int) (w : World) (hT : Tabs w) : Calls Tryd.prog 41 #[.int .i64 n] w fun e w' => e = .returned (.bool (codeR n || n == 0)) ∧ w' = w := by
  have c0 := hT.1.cell gCodes 0 (by decide)
  have c1 := hT.1.cell gCodes 1 (by decide)
  have c2 := hT.1.cell gCodes 2 (by decide)
  have c3 := hT.1.cell gCodes 3 (by decide)
  have c4 := hT.1.cell gCodes 4 (by decide)
  simp only [List.getD_cons_zero, List.getD_cons_succ] at c0 c1 c2 c3 c4
  clear hT
  go_enter Tryd.func41, Tryd.ntmps41
  go_wp2_with (fail)
  go_loopw [6] (fun i wr => CodeRel n w i wr) (fun i _ => 5 - (intOf i).toNat)
  case atStart => exact ⟨rfl, 0, by decide, rfl, fun j hj => absurd hj (by omega)⟩
  case round =>
    obtain ⟨rfl, k, hk, rfl, hne⟩ := hrel
    clear c0 c1 c2 c3 c4
    by_cases hlt : k < 5
    · have hix := idx_codes k hlt
      have hcr := @codeR_at n k hlt
      have HN := Lib.hid hne
      clear hne
      generalize hc : codeAt k = c at hix hcr
      by_cases hcn : c = n
      · have HC := Lib.hid (hcr hcn)
        clear hcr
        go_wp2_with (fail)
        go_ret
        exact ⟨ret_bool (by rw [HC.out]; rfl), rfl⟩
      · clear hcr
        go_wp2_with (fail)
        refine ⟨⟨rfl, k + 1, by omega, by go_num, fun j hj => ?_⟩, by simp [intOf]; omega⟩
        by_cases hjk : j = k
        · subst hjk; rw [hc]; exact hcn
        · exact HN.out j (by omega)
    · obtain rfl : k = 5 := by omega
      have HC := Lib.hid (codeR_no hne)
      clear hne
      go_wp2_with (fail)
      go_ret
      exact ⟨ret_bool (by rw [HC.out]; simp), rfl⟩

/-! flag.ways. -/
def WayRel (f : Flg) (w : World) (v i : Value) (wr : World) : Prop :=
  ∃ k : Nat, k ≤ 6 ∧ i = .int .i64 (k : Int) ∧ wr.ownsRow w.heap.size 9 1 v (wayL f k).length ((wayL f k).map .string) ∧ Blk wr w.heap.size 24 #[Value.bool f.last, .bool f.next, .bool f.chain, .bool f.fin, .bool f.forb, .bool f.gone, .bool f.app, .bool f.disc, .int .i64 f.skip, .int .i64 f.red] ∧ Below w.heap.size w wr
theorem idx_way (f : Flg) (k : Nat) (hk : k < 6) (w : World) : (Instr.index 78 (.agg #[.bool f.last, .bool f.next, .bool f.chain, .bool f.fin, .bool f.forb, .bool f.gone]) (.int .i64 (k : Int))).run Tryd.prog w = .ok (.bool (way6 f k)) w := by
  have h : k = 0 ∨ k = 1 ∨ k = 2 ∨ k = 3 ∨ k = 4 ∨ k = 5 := by omega
  rcases h with rfl | rfl | rfl | rfl | rfl | rfl
  · show (Instr.index 78 _ (.int .i64 0)).run Tryd.prog w = .ok (.bool f.last) w
    kernel_rfl
  · show (Instr.index 78 _ (.int .i64 1)).run Tryd.prog w = .ok (.bool f.next) w
    kernel_rfl
  · show (Instr.index 78 _ (.int .i64 2)).run Tryd.prog w = .ok (.bool f.chain) w
    kernel_rfl
  · show (Instr.index 78 _ (.int .i64 3)).run Tryd.prog w = .ok (.bool f.fin) w
    kernel_rfl
  · show (Instr.index 78 _ (.int .i64 4)).run Tryd.prog w = .ok (.bool f.forb) w
    kernel_rfl
  · show (Instr.index 78 _ (.int .i64 5)).run Tryd.prog w = .ok (.bool f.gone) w
    kernel_rfl
def letter (k : Nat) : ByteArray := ⟨#[([76, 78, 67, 69, 70, 71] : List UInt8).getD k 0]⟩
theorem sub_letter (k : Nat) (hk : k < 6) (w : World) : (Instr.slice 9 (.string ⟨#[76, 78, 67, 69, 70, 71]⟩) (some (.int .i64 (k : Int))) (some (.int .i64 ((k : Int) + 1))) none).run Tryd.prog w = .ok (.string (letter k)) w := by
  have h : k = 0 ∨ k = 1 ∨ k = 2 ∨ k = 3 ∨ k = 4 ∨ k = 5 := by omega
  rcases h with rfl | rfl | rfl | rfl | rfl | rfl
  · show (Instr.slice 9 _ (some (.int .i64 0)) (some (.int .i64 1)) none).run Tryd.prog w = .ok (.string ⟨#[76]⟩) w
    kernel_rfl
  · show (Instr.slice 9 _ (some (.int .i64 1)) (some (.int .i64 2)) none).run Tryd.prog w = .ok (.string ⟨#[78]⟩) w
    kernel_rfl
  · show (Instr.slice 9 _ (some (.int .i64 2)) (some (.int .i64 3)) none).run Tryd.prog w = .ok (.string ⟨#[67]⟩) w
    kernel_rfl
  · show (Instr.slice 9 _ (some (.int .i64 3)) (some (.int .i64 4)) none).run Tryd.prog w = .ok (.string ⟨#[69]⟩) w
    kernel_rfl
  · show (Instr.slice 9 _ (some (.int .i64 4)) (some (.int .i64 5)) none).run Tryd.prog w = .ok (.string ⟨#[70]⟩) w
    kernel_rfl
  · show (Instr.slice 9 _ (some (.int .i64 5)) (some (.int .i64 6)) none).run Tryd.prog w = .ok (.string ⟨#[71]⟩) w
    kernel_rfl
end Go.Proofs.YtlipjagdlpkjpaaDoor
