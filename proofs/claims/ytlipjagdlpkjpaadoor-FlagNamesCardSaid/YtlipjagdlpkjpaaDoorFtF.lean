/-
  flag.Parse, walked; conditions: the two tables lie as they are laid, a variable of the library is an int.
-/
import Derived.Test.YtlipjagdlpkjpaaDoorFtE
import Derived.Lib.SplitLaws
import Derived.Lib.CountLaws
namespace Go.Proofs.YtlipjagdlpkjpaaDoor
open Go.RowKit
set_option linter.unusedVariables false
set_option linter.unusedSimpArgs false

theorem set_ten {cs : Array Value} (h : cs.size = 10) (a b c d e f g i j k : Value) : (((((((((cs.setIfInBounds 0 a).setIfInBounds 1 b).setIfInBounds 2 c).setIfInBounds 3 d).setIfInBounds 4 e).setIfInBounds 5 f).setIfInBounds 6 g).setIfInBounds 7 i).setIfInBounds 8 j).setIfInBounds 9 k = #[a, b, c, d, e, f, g, i, j, k] := by
  obtain ⟨l⟩ := cs
  match l, h with
  | [x0, x1, x2, x3, x4, x5, x6, x7, x8, x9], _ => simp only [List.setIfInBounds_toArray, List.set_cons_zero, List.set_cons_succ]
/-- Ten cells laid one by one. -/
def lay10 (w : World) (A : Nat) (a b c d e f g i j k : Value) : World :=
  (((((((((w.setCell ⟨A, 0, none⟩ a).setCell ⟨A, 1, none⟩ b).setCell ⟨A, 2, none⟩ c).setCell ⟨A, 3, none⟩ d).setCell ⟨A, 4, none⟩ e).setCell ⟨A, 5, none⟩ f).setCell ⟨A, 6, none⟩ g).setCell ⟨A, 7, none⟩ i).setCell ⟨A, 8, none⟩ j).setCell ⟨A, 9, none⟩ k
theorem lay10_same {w : World} {A : Nat} {T : TypeId} {cs : Array Value} (h : Blk w A T cs) (hs : cs.size = 10) (a b c d e f g i j k : Value) : Blk (lay10 w A a b c d e f g i j k) A T #[a, b, c, d, e, f, g, i, j, k] := by
  have := (((((((((h.set_ 0 a).set_ 1 b).set_ 2 c).set_ 3 d).set_ 4 e).set_ 5 f).set_ 6 g).set_ 7 i).set_ 8 j).set_ 9 k
  rw [set_ten hs] at this
  exact this
theorem lay10_far {w : World} {A B : Nat} {T : TypeId} {cs : Array Value} (h : Blk w B T cs) (hne : B ≠ A) (a b c d e f g i j k : Value) : Blk (lay10 w A a b c d e f g i j k) B T cs :=
  (((((((((h.far (p := ⟨A, 0, none⟩) hne a).far (p := ⟨A, 1, none⟩) hne b).far (p := ⟨A, 2, none⟩) hne c).far (p := ⟨A, 3, none⟩) hne d).far (p := ⟨A, 4, none⟩) hne e).far (p := ⟨A, 5, none⟩) hne f).far (p := ⟨A, 6, none⟩) hne g).far (p := ⟨A, 7, none⟩) hne i).far (p := ⟨A, 8, none⟩) hne j).far (p := ⟨A, 9, none⟩) hne k
theorem lay10_x {w w0 : World} {A B : Nat} (h : BelowX B A w0 w) (a b c d e f g i j k : Value) : BelowX B A w0 (lay10 w A a b c d e f g i j k) :=
  (((((((((h.setCell (p := ⟨A, 0, none⟩) (.inl rfl) a).setCell (p := ⟨A, 1, none⟩) (.inl rfl) b).setCell (p := ⟨A, 2, none⟩) (.inl rfl) c).setCell (p := ⟨A, 3, none⟩) (.inl rfl) d).setCell (p := ⟨A, 4, none⟩) (.inl rfl) e).setCell (p := ⟨A, 5, none⟩) (.inl rfl) f).setCell (p := ⟨A, 6, none⟩) (.inl rfl) g).setCell (p := ⟨A, 7, none⟩) (.inl rfl) i).setCell (p := ⟨A, 8, none⟩) (.inl rfl) j).setCell (p := ⟨A, 9, none⟩) (.inl rfl) k
/-- The deferred function: it wipes the flags where there is a fault. -/
def WipePost (A B : Nat) (f : Flg) (er at' : Int) (u : FrameMode) (w : World) (e : Ending) (u' : FrameMode) (W' : World) : Prop :=
  u' = u ∧ (e = .returned (.tuple #[]) ∧ Blk W' A 24 #[Value.bool ((if er = 0 then f else zeroF)).last, .bool ((if er = 0 then f else zeroF)).next, .bool ((if er = 0 then f else zeroF)).chain, .bool ((if er = 0 then f else zeroF)).fin, .bool ((if er = 0 then f else zeroF)).forb, .bool ((if er = 0 then f else zeroF)).gone, .bool ((if er = 0 then f else zeroF)).app, .bool ((if er = 0 then f else zeroF)).disc, .int .i64 ((if er = 0 then f else zeroF)).skip, .int .i64 ((if er = 0 then f else zeroF)).red] ∧ Blk W' B 27 #[.int .i64 er, .int .i64 at'] ∧ BelowX w.heap.size A w W')

set_option maxRecDepth 100000 in
set_option maxHeartbeats 400000 in
theorem dwipe (A B : Nat) (f : Flg) (er at' : Int) (u : FrameMode) (w : World) (hA : Blk w A 24 #[Value.bool f.last, .bool f.next, .bool f.chain, .bool f.fin, .bool f.forb, .bool f.gone, .bool f.app, .bool f.disc, .int .i64 f.skip, .int .i64 f.red]) (hB : Blk w B 27 #[.int .i64 er, .int .i64 at']) (hne : A ≠ B) :
    CallsD Tryd.prog 30 #[.pointer (some ⟨B, 0, none⟩), .pointer (some ⟨A, 0, none⟩)] u w (WipePost A B f er at' u w) := by
  have c0 : w.cell? ⟨B, 0, none⟩ = some (.int .i64 er) := hB.cell' (i := 0) rfl
  have hl := hB.lt
  have hlA := hA.lt
  have f0 := hA.frozen 0
  have f1 := hA.frozen 1
  have f2 := hA.frozen 2
  have f3 := hA.frozen 3
  have f4 := hA.frozen 4
  have f5 := hA.frozen 5
  have f6 := hA.frozen 6
  have f7 := hA.frozen 7
  have f8 := hA.frozen 8
  have f9 := hA.frozen 9
  have a0 := hA.cell' (i := 0) rfl
  have a1 := hA.cell' (i := 1) rfl
  have a2 := hA.cell' (i := 2) rfl
  have a3 := hA.cell' (i := 3) rfl
  have a4 := hA.cell' (i := 4) rfl
  have a5 := hA.cell' (i := 5) rfl
  have a6 := hA.cell' (i := 6) rfl
  have a7 := hA.cell' (i := 7) rfl
  have a8 := hA.cell' (i := 8) rfl
  have a9 := hA.cell' (i := 9) rfl
  have H := Lib.hid (And.intro hA hB)
  clear hA hB
  by_cases he : er = 0
  · subst he
    go_enter_d Tryd.func30, Tryd.ntmps30
    go_wp2_with (fail)
    go_end0
    exact ⟨rfl, H.out.1, H.out.2, BelowX.refl _ _ _⟩
  · have HE := Lib.hid he
    have q : (er != 0) = true := by simp; exact he
    clear he
    go_enter_d Tryd.func30, Tryd.ntmps30
    go_wp2_with (fail)
    go_end0
    refine ⟨rfl, ?_, ?_, ?_⟩
    · exact lay10_same H.out.1 rfl _ _ _ _ _ _ _ _ _ _
    · exact lay10_far H.out.2 (Ne.symm hne) _ _ _ _ _ _ _ _ _ _
    · exact lay10_x (BelowX.refl _ _ _) _ _ _ _ _ _ _ _ _ _
end Go.Proofs.YtlipjagdlpkjpaaDoor
