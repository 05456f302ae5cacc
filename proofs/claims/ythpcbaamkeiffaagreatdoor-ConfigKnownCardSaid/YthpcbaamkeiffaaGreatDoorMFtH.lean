/-
  flag.Parse, walked; conditions: the two tables lie as they are laid, a variable of the library is an int.
  A string cut at one byte, as stretches found one byte after the other; strings.Split's pieces are these; no program is in sight; no condition.
  flag.Parse, walked; conditions: the two tables lie as they are laid, a variable of the library is an int.
  flag.Parse where there are brackets, walked; conditions: the two tables lie as they are laid, a variable of the library is an int.
-/
import Derived.Lib.SplitLaws
import Derived.Lib.CountLaws
import Derived.Lib.IndexLaws
import Derived.Laws.DeepStrings4
import Derived.Test.YthpcbaamkeiffaaGreatDoorMFtE
import Derived.Test.YthpcbaamkeiffaaGreatDoorMRwFn
namespace Go.Proofs.YthpcbaamkeiffaaGreatDoor
open Go.RowKit
set_option linter.unusedVariables false
set_option linter.unusedSimpArgs false

theorem set_ten {cs : Array Value} (h : cs.size = 10) (a b c d e f g i j k : Value) : (((((((((cs.setIfInBounds 0 a).setIfInBounds 1 b).setIfInBounds 2 c).setIfInBounds 3 d).setIfInBounds 4 e).setIfInBounds 5 f).setIfInBounds 6 g).setIfInBounds 7 i).setIfInBounds 8 j).setIfInBounds 9 k = #[a, b, c, d, e, f, g, i, j, k] := by
  obtain ⟨l⟩ := cs
  match l, h with
  | [x0, x1, x2, x3, x4, x5, x6, x7, x8, x9], _ => simp only [List.setIfInBounds_toArray, List.set_cons_zero, List.set_cons_succ]
/-- Ten cells laid one by one. -/
def lay10 (w : World) (A : Nat) (a b c d e f g i j k : Value) : World :=
  (((((((((w.setCell ⟨A, 0, none⟩ a).setCell ⟨A, 1, none⟩ b).setCell ⟨A, 2, none⟩ c).setCell ⟨A, 3, none⟩ d).setCell ⟨A, 4, none⟩ e).setCell ⟨A, 5, none⟩ f).setCell ⟨A, 6, none⟩ g).setCell ⟨A, 7, none⟩ i).setCell ⟨A, 8, none⟩ j).setCell ⟨A, 9, none⟩ k
theorem lay10_same {w : World} {A : Nat} {T : TypeId} {cs : Array Value} (h : Blk w A T cs) (hs : cs.size = 10) (a b c d e f g i j k : Value) : Blk (lay10 w A a b c d e f g i j k) A T #[a, b, c, d, e, f, g, i, j, k] := by
  have := (((((((((h.set_ 0 a).set_ 1 b).set_ 2 c).set_ 3 d).set_ 4 e).set_ 5 f).set_ 6 g).set_ 7 i).set_ 8 j).set_ 9 k
  rw [set_ten hs] at this
  exact this
theorem lay10_far {w : World} {A B : Nat} {T : TypeId} {cs : Array Value} (h : Blk w B T cs) (hne : B ≠ A) (a b c d e f g i j k : Value) : Blk (lay10 w A a b c d e f g i j k) B T cs :=
  (((((((((h.far (p := ⟨A, 0, none⟩) hne a).far (p := ⟨A, 1, none⟩) hne b).far (p := ⟨A, 2, none⟩) hne c).far (p := ⟨A, 3, none⟩) hne d).far (p := ⟨A, 4, none⟩) hne e).far (p := ⟨A, 5, none⟩) hne f).far (p := ⟨A, 6, none⟩) hne g).far (p := ⟨A, 7, none⟩) hne i).far (p := ⟨A, 8, none⟩) hne j).far (p := ⟨A, 9, none⟩) hne k
theorem lay10_x {w w0 : World} {A B : Nat} (h : BelowX B A w0 w) (a b c d e f g i j k : Value) : BelowX B A w0 (lay10 w A a b c d e f g i j k) :=
  (((((((((h.setCell (p := ⟨A, 0, none⟩) (.inl rfl) a).setCell (p := ⟨A, 1, none⟩) (.inl rfl) b).setCell (p := ⟨A, 2, none⟩) (.inl rfl) c).setCell (p := ⟨A, 3, none⟩) (.inl rfl) d).setCell (p := ⟨A, 4, none⟩) (.inl rfl) e).setCell (p := ⟨A, 5, none⟩) (.inl rfl) f).setCell (p := ⟨A, 6, none⟩) (.inl rfl) g).setCell (p := ⟨A, 7, none⟩) (.inl rfl) i).setCell (p := ⟨A, 8, none⟩) (.inl rfl) j).setCell (p := ⟨A, 9, none⟩) (.inl rfl) k
/-- The deferred function: it wipes the flags where there is a fault. -/
def WipePost (A B : Nat) (f : Flg) (er at' : Int) (u : FrameMode) (w : World) (e : Ending) (u' : FrameMode) (W' : World) : Prop :=
  u' = u ∧ (e = .returned (.tuple #[]) ∧ Blk W' A 64 #[Value.bool ((if er = 0 then f else zeroF)).last, .bool ((if er = 0 then f else zeroF)).next, .bool ((if er = 0 then f else zeroF)).chain, .bool ((if er = 0 then f else zeroF)).fin, .bool ((if er = 0 then f else zeroF)).forb, .bool ((if er = 0 then f else zeroF)).gone, .bool ((if er = 0 then f else zeroF)).app, .bool ((if er = 0 then f else zeroF)).disc, .int .i64 ((if er = 0 then f else zeroF)).skip, .int .i64 ((if er = 0 then f else zeroF)).red] ∧ Blk W' B 33 #[.int .i64 er, .int .i64 at'] ∧ BelowX w.heap.size A w W')

set_option maxRecDepth 100000 in
set_option maxHeartbeats 400000 in
theorem dwipe (A B : Nat) (f : Flg) (er at' : Int) (u : FrameMode) (w : World) (hA : Blk w A 64 #[Value.bool f.last, .bool f.next, .bool f.chain, .bool f.fin, .bool f.forb, .bool f.gone, .bool f.app, .bool f.disc, .int .i64 f.skip, .int .i64 f.red]) (hB : Blk w B 33 #[.int .i64 er, .int .i64 at']) (hne : A ≠ B) :
    CallsD Tryz.prog 171 #[.pointer (some ⟨B, 0, none⟩), .pointer (some ⟨A, 0, none⟩)] u w (WipePost A B f er at' u w) := by
  have c0 : w.cell? ⟨B, 0, none⟩ = some (.int .i64 er) := hB.cell' (i := 0) rfl
  have hl := hB.lt
  have hlA := hA.lt
  have f0 := hA.frozen 0
  have f1 := hA.frozen 1
  have f2 := hA.frozen 2
  have f3 := hA.frozen 3
  have f4 := hA.frozen 4
  have f5 := hA.frozen 5
  have f6 := hA.frozen 6
  have f7 := hA.frozen 7
  have f8 := hA.frozen 8
  have f9 := hA.frozen 9
  have a0 := hA.cell' (i := 0) rfl
  have a1 := hA.cell' (i := 1) rfl
  have a2 := hA.cell' (i := 2) rfl
  have a3 := hA.cell' (i := 3) rfl
  have a4 := hA.cell' (i := 4) rfl
  have a5 := hA.cell' (i := 5) rfl
  have a6 := hA.cell' (i := 6) rfl
  have a7 := hA.cell' (i := 7) rfl
  have a8 := hA.cell' (i := 8) rfl
  have a9 := hA.cell' (i := 9) rfl
  have H := Lib.hid (And.intro hA hB)
  clear hA hB
  by_cases he : er = 0
  · subst he
    go_enter_d Tryz.func171, Tryz.ntmps171
    go_wp2_with (fail)
    go_end0
    exact ⟨rfl, H.out.1, H.out.2, BelowX.refl _ _ _⟩
  · have HE := Lib.hid he
    have q : (er != 0) = true := by simp; exact he
    clear he
    go_enter_d Tryz.func171, Tryz.ntmps171
    go_wp2_with (fail)
    go_end0
    refine ⟨rfl, ?_, ?_, ?_⟩
    · exact lay10_same H.out.1 rfl _ _ _ _ _ _ _ _ _ _
    · exact lay10_far H.out.2 (Ne.symm hne) _ _ _ _ _ _ _ _ _ _
    · exact lay10_x (BelowX.refl _ _ _) _ _ _ _ _ _ _ _ _ _
end Go.Proofs.YthpcbaamkeiffaaGreatDoor
namespace Go.Proofs.YthpcbaamkeiffaaGreatDoor
set_option linter.unusedVariables false
set_option linter.unusedSimpArgs false

/-- The stretches between bytes c: a is where the stretch began, i where the search stands, n bytes are left. -/
def segs (G : Nat → Nat) (c : Nat) : Nat → Nat → Nat → List (Nat × Nat)
  | a, i, 0 => [(a, i)]
  | a, i, n + 1 => if G i = c then (a, i) :: segs G c (i + 1) (i + 1) n else segs G c a (i + 1) n
theorem segs_hit {G : Nat → Nat} {c a i n : Nat} (h : G i = c) : segs G c a i (n + 1) = (a, i) :: segs G c (i + 1) (i + 1) n := by
  conv => lhs; unfold segs
  rw [if_pos h]
theorem segs_miss {G : Nat → Nat} {c a i n : Nat} (h : G i ≠ c) : segs G c a i (n + 1) = segs G c a (i + 1) n := by
  conv => lhs; unfold segs
  rw [if_neg h]
theorem segs_skip {G : Nat → Nat} {c a n : Nat} : ∀ (j i : Nat), (∀ x, x < j → G (i + x) ≠ c) → segs G c a i (j + n) = segs G c a (i + j) n := by
  intro j
  induction j with
  | zero => intro i _; rw [Nat.zero_add, Nat.add_zero]
  | succ j ih =>
    intro i h
    rw [show j + 1 + n = (j + n) + 1 by omega, segs_miss (by have := h 0 (by omega); rwa [Nat.add_zero] at this), ih (i + 1) (fun x hx => by have := h (x + 1) (by omega); rwa [show i + (x + 1) = i + 1 + x by omega] at this), show i + 1 + j = i + (j + 1) by omega]
/-- A stretch lies where it should. -/
theorem segs_in {G : Nat → Nat} {c : Nat} : ∀ (n a i : Nat), a ≤ i → ∀ p ∈ segs G c a i n, a ≤ p.1 ∧ p.1 ≤ p.2 ∧ p.2 ≤ i + n := by
  intro n
  induction n with
  | zero =>
    intro a i h p hp
    unfold segs at hp
    obtain rfl : p = (a, i) := by simpa using hp
    exact ⟨Nat.le_refl _, h, by simp⟩
  | succ n ih =>
    intro a i h p hp
    by_cases he : G i = c
    · rw [segs_hit he] at hp
      rcases List.mem_cons.1 hp with rfl | hp
      · exact ⟨Nat.le_refl _, h, by show i ≤ i + (n + 1); omega⟩
      · have := ih (i + 1) (i + 1) (Nat.le_refl _) p hp
        omega
    · rw [segs_miss he] at hp
      have := ih a (i + 1) (by omega) p hp
      omega
theorem byte_eq {t : ByteArray} {c : UInt8} {x : Nat} (hx : x < t.size) : t.data.toList[x]? = some c ↔ byS t x = c.toNat := by
  rw [byS_at hx]
  unfold byS
  constructor
  · intro h; rw [Option.some.inj h]
  · intro h; rw [UInt8.toNat_inj.1 h]
theorem indexB_one (t : ByteArray) (c : UInt8) :
    (Lib.indexB t ⟨#[c]⟩ = -1 ∧ ∀ x, x < t.size → byS t x ≠ c.toNat) ∨ ∃ o : Nat, Lib.indexB t ⟨#[c]⟩ = o ∧ o < t.size ∧ byS t o = c.toNat ∧ ∀ x, x < o → byS t x ≠ c.toNat := by
  have e : Lib.indexB t ⟨#[c]⟩ = Lib.indexByte t.data.toList c := Lib.index_one t.data.toList c
  have hge := Lib.indexByte_ge t.data.toList c
  rw [e]
  rcases (show Lib.indexByte t.data.toList c = -1 ∨ 0 ≤ Lib.indexByte t.data.toList c by omega) with h | h
  · refine .inl ⟨h, fun x hx hb => Lib.indexByte_none h x ((byte_eq hx).2 hb)⟩
  · obtain ⟨h1, h2⟩ := Lib.indexByte_some (Int.toNat_of_nonneg h).symm
    have ho : (Lib.indexByte t.data.toList c).toNat < t.size := by rw [← size_data]; exact (List.getElem?_eq_some_iff.1 h1).1
    exact .inr ⟨_, (Int.toNat_of_nonneg h).symm, ho, (byte_eq ho).1 h1, fun x hx hb => h2 x hx ((byte_eq (by omega)).2 hb)⟩
/-- strings.Split of a part of a string at one byte. -/
theorem split_segs (s : ByteArray) (c : UInt8) : ∀ (m a b : Nat), b - a ≤ m → a ≤ b → b ≤ s.size →
    Lib.splitB ⟨#[c]⟩ 0 (Lib.countB (s.extract a b) ⟨#[c]⟩) (s.extract a b) = (segs (byS s) c.toNat a a (b - a)).map (fun p => s.extract p.1 p.2) := by
  intro m
  induction m with
  | zero =>
    intro a b hm hab hb
    obtain rfl : a = b := by omega
    rcases indexB_one (s.extract a a) c with ⟨h, _⟩ | ⟨o, _, ho, _⟩
    · rw [Lib.splitB_miss _ _ _ _ h, Nat.sub_self]
      rfl
    · rw [ext_len hb] at ho; omega
  | succ m ih =>
    intro a b hm hab hb
    have hl := ext_len (s := s) (a := a) (b := b) hb
    rcases indexB_one (s.extract a b) c with ⟨h, h2⟩ | ⟨o, h, ho, ha, h2⟩
    · rw [Lib.splitB_miss _ _ _ _ h]
      have := segs_skip (G := byS s) (c := c.toNat) (a := a) (n := 0) (b - a) a (fun x hx => by
        have := h2 x (by omega)
        rwa [byS_ext (by omega) hb] at this)
      rw [Nat.add_zero] at this
      rw [this, show a + (b - a) = b by omega]
      rfl
    · rw [hl] at ho
      rw [Lib.countB_hit _ ⟨#[c]⟩ o (by show 1 ≤ 1; omega) h, Nat.add_comm 1, Lib.splitB_hit _ _ _ _ o h, hl, show (⟨#[c]⟩ : ByteArray).size = 1 from rfl, Nat.add_zero, ext_ext (by omega), ext_ext (by omega), show a + (b - a) = b by omega]
      have hs := segs_skip (G := byS s) (c := c.toNat) (a := a) (n := b - a - o) o a (fun x hx => by
        have := h2 x hx
        rwa [byS_ext (by omega) hb] at this)
      rw [show o + (b - a - o) = b - a by omega, show b - a - o = (b - (a + o + 1)) + 1 by omega] at hs
      rw [byS_ext (by omega) hb] at ha
      rw [hs, segs_hit ha, List.map_cons, ← ih (a + o + 1) b (by omega) (by omega) hb]
      simp only [Nat.add_zero, Nat.add_assoc]
end Go.Proofs.YthpcbaamkeiffaaGreatDoor
namespace Go.Proofs.YthpcbaamkeiffaaGreatDoor
open Go.RowKit
set_option linter.unusedVariables false
set_option linter.unusedSimpArgs false

def ParsePost (w : World) (r : Flg × Int × Nat) (e : Ending) (W' : World) : Prop :=
  e = .returned (.tuple #[Value.agg #[Value.bool r.1.last, .bool r.1.next, .bool r.1.chain, .bool r.1.fin, .bool r.1.forb, .bool r.1.gone, .bool r.1.app, .bool r.1.disc, .int .i64 r.1.skip, .int .i64 r.1.red], .agg #[.int .i64 r.2.1, .int .i64 (r.2.2 : Int)]]) ∧ Below w.heap.size w W'

set_option maxRecDepth 100000 in
set_option maxHeartbeats 400000 in
theorem parse_res (A B : Nat) (f : Flg) (er a : Int) (tmps : Array Value) (w : World) (h2 : tmps.getD 2 undef = .pointer (some ⟨A, 0, none⟩)) (h3 : tmps.getD 3 undef = .pointer (some ⟨B, 0, none⟩))
    (hA : Blk w A 64 #[Value.bool f.last, .bool f.next, .bool f.chain, .bool f.fin, .bool f.forb, .bool f.gone, .bool f.app, .bool f.disc, .int .i64 f.skip, .int .i64 f.red]) (hB : Blk w B 33 #[.int .i64 er, .int .i64 a]) :
    (results Tryz.f154 tmps).run Tryz.prog w = .ok (.tuple #[Value.agg #[Value.bool f.last, .bool f.next, .bool f.chain, .bool f.fin, .bool f.forb, .bool f.gone, .bool f.app, .bool f.disc, .int .i64 f.skip, .int .i64 f.red], .agg #[.int .i64 er, .int .i64 a]]) w := by
  have a0 := hA.cell' (i := 0) rfl
  have a1 := hA.cell' (i := 1) rfl
  have a2 := hA.cell' (i := 2) rfl
  have a3 := hA.cell' (i := 3) rfl
  have a4 := hA.cell' (i := 4) rfl
  have a5 := hA.cell' (i := 5) rfl
  have a6 := hA.cell' (i := 6) rfl
  have a7 := hA.cell' (i := 7) rfl
  have a8 := hA.cell' (i := 8) rfl
  have a9 := hA.cell' (i := 9) rfl
  have b0 := hB.cell' (i := 0) rfl
  have b1 := hB.cell' (i := 1) rfl
  simp only [List.getElem_toArray, List.getElem_cons_zero, List.getElem_cons_succ] at a0 a1 a2 a3 a4 a5 a6 a7 a8 a9 b0 b1
  clear hA hB
  simp only [Array.getD_eq_getD_getElem?] at h2 h3
  simp [results, Tryz.results154, go_sem, h2, h3, a0, a1, a2, a3, a4, a5, a6, a7, a8, a9, b0, b1]
theorem parse_door {w W : World} {A B : Nat} {f : Flg} {er a : Int} {tmps : Array Value} {r : Flg × Int × Nat} (h2 : tmps.getD 2 undef = .pointer (some ⟨A, 0, none⟩)) (h3 : tmps.getD 3 undef = .pointer (some ⟨B, 0, none⟩))
    (hA : Blk W A 64 #[Value.bool f.last, .bool f.next, .bool f.chain, .bool f.fin, .bool f.forb, .bool f.gone, .bool f.app, .bool f.disc, .int .i64 f.skip, .int .i64 f.red]) (hB : Blk W B 33 #[.int .i64 er, .int .i64 a]) (hne : A ≠ B) (hb : Below w.heap.size w W) (hlA : w.heap.size ≤ A)
    (hr : r.1 = (if er = 0 then f else zeroF) ∧ r.2.1 = er ∧ (r.2.2 : Int) = a) :
    bodyPostD Tryz.prog Tryz.f154 (ParsePost w r) Exit.ret { tmps := tmps, defers := [{ target := .fn (.func 171) #[.pointer (some ⟨B, 0, none⟩), .pointer (some ⟨A, 0, none⟩)], args := #[] }] } W := by
  show Leaves _ _ _ _ _ _ _
  refine leaves_cons (f := 171) (args := #[.pointer (some ⟨B, 0, none⟩), .pointer (some ⟨A, 0, none⟩)]) (by simp) (by simp [go_sem]) ?_
  refine (dwipe A B f er a .returning W hA hB hne).mono ?_
  rintro e u' W' ⟨rfl, rfl, kA, kB, hx⟩
  refine ⟨_, parse_res A B _ er a tmps W' h2 h3 kA kB, ?_, ?_⟩
  · rw [hr.1, hr.2.1, hr.2.2]
  · exact hb.trans (hx.below (by exact hb.size) hlA)
/-- The two blocks of the results. -/
theorem two_blks (w : World) (er a : Int) : Blk ((w.alloc (.cells #[Value.bool zeroF.last, .bool zeroF.next, .bool zeroF.chain, .bool zeroF.fin, .bool zeroF.forb, .bool zeroF.gone, .bool zeroF.app, .bool zeroF.disc, .int .i64 zeroF.skip, .int .i64 zeroF.red] 64)).alloc (.cells #[.int .i64 er, .int .i64 a] 33)) w.heap.size 64 #[Value.bool zeroF.last, .bool zeroF.next, .bool zeroF.chain, .bool zeroF.fin, .bool zeroF.forb, .bool zeroF.gone, .bool zeroF.app, .bool zeroF.disc, .int .i64 zeroF.skip, .int .i64 zeroF.red] ∧
    Blk ((w.alloc (.cells #[Value.bool zeroF.last, .bool zeroF.next, .bool zeroF.chain, .bool zeroF.fin, .bool zeroF.forb, .bool zeroF.gone, .bool zeroF.app, .bool zeroF.disc, .int .i64 zeroF.skip, .int .i64 zeroF.red] 64)).alloc (.cells #[.int .i64 er, .int .i64 a] 33)) (w.heap.size + 1) 33 #[.int .i64 er, .int .i64 a] ∧
    Below w.heap.size w ((w.alloc (.cells #[Value.bool zeroF.last, .bool zeroF.next, .bool zeroF.chain, .bool zeroF.fin, .bool zeroF.forb, .bool zeroF.gone, .bool zeroF.app, .bool zeroF.disc, .int .i64 zeroF.skip, .int .i64 zeroF.red] 64)).alloc (.cells #[.int .i64 er, .int .i64 a] 33)) := by
  refine ⟨(Blk.new w _ _).alloc _, ?_, gr_alloc (gr_alloc (Below.refl _ _) _) _⟩
  have := Blk.new (w.alloc (.cells #[Value.bool zeroF.last, .bool zeroF.next, .bool zeroF.chain, .bool zeroF.fin, .bool zeroF.forb, .bool zeroF.gone, .bool zeroF.app, .bool zeroF.disc, .int .i64 zeroF.skip, .int .i64 zeroF.red] 64)) 33 #[.int .i64 er, .int .i64 a]
  rwa [show (w.alloc (.cells #[Value.bool zeroF.last, .bool zeroF.next, .bool zeroF.chain, .bool zeroF.fin, .bool zeroF.forb, .bool zeroF.gone, .bool zeroF.app, .bool zeroF.disc, .int .i64 zeroF.skip, .int .i64 zeroF.red] 64)).heap.size = w.heap.size + 1 by simp] at this

set_option maxRecDepth 100000 in
set_option maxHeartbeats 1000000 in
theorem fparse_empty (w : World) :
    Calls Tryz.prog 154 #[.string ⟨#[]⟩] w (ParsePost w (zeroF, 0, 0)) := by
  have hmf : ∀ (fn : Fn) (first cap : Array Value) (w : World), (Instr.makeFunc fn first cap).run Tryz.prog w = .ok (.func fn first cap) w := fun _ _ _ _ => rfl
  go_enter_defers Tryz.func154, Tryz.ntmps154
  go_wp2_with (fail)
  go_step3
  go_wp2_with (fail)
  go_region
  go_wp2_with (fail)
  rw [Exit.noGoto_ret]
  exact parse_door rfl rfl (two_blks w 0 0).1.drew (two_blks w 0 0).2.1.drew (by simp) (gr_drew (two_blks w 0 0).2.2) (Nat.le_refl _) ⟨rfl, rfl, rfl⟩

set_option maxRecDepth 100000 in
set_option maxHeartbeats 1000000 in
theorem fparse_head (s : ByteArray) (h0 : 0 < s.size) (hs : s.size ≤ 1000000) (h : byS s 0 ≠ 91) (w : World) :
    Calls Tryz.prog 154 #[.string s] w (ParsePost w (zeroF, 3, 0)) := by
  have hmf : ∀ (fn : Fn) (first cap : Array Value) (w : World), (Instr.makeFunc fn first cap).run Tryz.prog w = .ok (.func fn first cap) w := fun _ _ _ _ => rfl
  have hne := nonempty_b s (by omega)
  obtain ⟨d, hd⟩ : ∃ d, d = byS s 0 := ⟨_, rfl⟩
  have e0 := fun h' => get_byS s 0 h'
  simp only [← hd] at e0 h
  have q : ((d : Int) != 91) = true := by simp; omega
  clear hd h
  go_enter_defers Tryz.func154, Tryz.ntmps154
  go_wp2_with (fail)
  go_step3
  go_wp2_with (fail)
  rw [Exit.noGoto_ret]
  exact parse_door rfl rfl (two_blks w 3 0).1 (two_blks w 3 0).2.1 (by simp) (two_blks w 3 0).2.2 (Nat.le_refl _) ⟨rfl, rfl, rfl⟩

set_option maxRecDepth 100000 in
set_option maxHeartbeats 1000000 in
theorem fparse_one (s : ByteArray) (h0 : s.size = 1) (h : byS s 0 = 91) (w : World) :
    Calls Tryz.prog 154 #[.string s] w (ParsePost w (zeroF, 3, 1)) := by
  have hmf : ∀ (fn : Fn) (first cap : Array Value) (w : World), (Instr.makeFunc fn first cap).run Tryz.prog w = .ok (.func fn first cap) w := fun _ _ _ _ => rfl
  have hne := nonempty_b s (by omega)
  obtain ⟨d, hd⟩ : ∃ d, d = byS s 0 := ⟨_, rfl⟩
  have e0 := fun h' => get_byS s 0 h'
  simp only [← hd] at e0 h
  have q : ((d : Int) != 91) = false := by simp; omega
  have hs : s.size ≤ 1 := by omega
  have hs1 : 1 ≤ s.size := by omega
  have qs : ((s.size : Int) == 1) = true := by simp; omega
  clear hd h h0
  go_enter_defers Tryz.func154, Tryz.ntmps154
  go_wp2_with (fail)
  go_step3
  go_wp2_with (fail)
  rw [Exit.noGoto_ret]
  exact parse_door rfl rfl (two_blks w 3 1).1 (two_blks w 3 1).2.1 (by simp) (two_blks w 3 1).2.2 (Nat.le_refl _) ⟨rfl, rfl, rfl⟩

set_option maxRecDepth 100000 in
set_option maxHeartbeats 1000000 in
theorem fparse_tail (s : ByteArray) (h0 : 1 < s.size) (hs : s.size ≤ 1000000) (h : byS s 0 = 91) (h9 : byS s (s.size - 1) ≠ 93) (w : World) :
    Calls Tryz.prog 154 #[.string s] w (ParsePost w (zeroF, 3, s.size - 1)) := by
  have hmf : ∀ (fn : Fn) (first cap : Array Value) (w : World), (Instr.makeFunc fn first cap).run Tryz.prog w = .ok (.func fn first cap) w := fun _ _ _ _ => rfl
  have hne := nonempty_b s (by omega)
  obtain ⟨d, hd⟩ : ∃ d, d = byS s 0 := ⟨_, rfl⟩
  have e0 := fun h' => get_byS s 0 h'
  simp only [← hd] at e0 h
  have q : ((d : Int) != 91) = false := by simp; omega
  have qs : ((s.size : Int) == 1) = false := by simp; omega
  obtain ⟨z, hz⟩ : ∃ z, z = byS s (s.size - 1) := ⟨_, rfl⟩
  have e9 := fun h' => get_byS s (s.size - 1) h'
  simp only [← hz] at e9 h9
  have q9 : ((z : Int) != 93) = true := by simp; omega
  clear hd h hz h9
  go_enter_defers Tryz.func154, Tryz.ntmps154
  go_wp2_with (fail)
  go_step3
  go_wp2_with (fail)
  rw [Exit.noGoto_ret]
  exact parse_door rfl rfl (two_blks w 3 ((s.size : Int) - 1)).1 (two_blks w 3 ((s.size : Int) - 1)).2.1 (by simp) (two_blks w 3 ((s.size : Int) - 1)).2.2 (Nat.le_refl _) ⟨rfl, rfl, by show ((s.size - 1 : Nat) : Int) = _; omega⟩

end Go.Proofs.YthpcbaamkeiffaaGreatDoor
namespace Go.Proofs.YthpcbaamkeiffaaGreatDoor
open Go.RowKit
set_option linter.unusedVariables false
set_option linter.unusedSimpArgs false

/-- The parts between the brackets. -/
def partsF (s : ByteArray) : List ByteArray := (segs (byS s) 44 1 1 (s.size - 2)).map (fun p => s.extract p.1 p.2)

theorem mid_split (s : ByteArray) (h : 1 < s.size) : Lib.splitB ⟨#[44]⟩ 0 (Lib.countB (midS s) ⟨#[44]⟩) (midS s) = partsF s := by
  have := split_segs s 44 (s.size - 2) 1 (s.size - 1) (by omega) (by omega) (by omega)
  unfold partsF
  rw [show s.size - 2 = s.size - 1 - 1 by omega]
  exact this
theorem parts_len (s : ByteArray) (h : 1 < s.size) : (partsF s).length = Lib.countB (midS s) ⟨#[44]⟩ + 1 := by
  rw [← mid_split s h]
  exact Lib.splitB_all _ (by show 1 ≤ 1; omega) _ _ _ rfl
theorem parts_small (s : ByteArray) (h : 1 < s.size) : ∀ p ∈ partsF s, p.size ≤ s.size := by
  intro p hp
  obtain ⟨q, hq, rfl⟩ := List.mem_map.1 hp
  have := segs_in _ _ _ (Nat.le_refl _) q hq
  rw [ext_len (by omega)]
  omega
theorem parts_le (s : ByteArray) (h : 1 < s.size) : (partsF s).length ≤ s.size := by
  have h1 := Lib.countB_le ⟨#[44]⟩ (by show 1 ≤ 1; omega) _ (midS s) (Nat.le_refl _)
  have h2 : (midS s).size = s.size - 1 - 1 := ext_len (by omega)
  rw [parts_len s h]
  omega
theorem runP_step {L : List ByteArray} {k : Nat} {p : ByteArray} {st : Put} {a : Nat} (h : L[k]? = some p) (h0 : (putP st p).2 = 0) : runP (L.drop k) st a = runP (L.drop (k + 1)) (putP st p).1 (a + p.size + 1) := by
  obtain ⟨hlt, he⟩ := List.getElem?_eq_some_iff.1 h
  rw [List.drop_eq_getElem_cons hlt, he]
  conv => lhs; unfold runP
  rw [if_pos h0]
theorem runP_stop {L : List ByteArray} {k : Nat} {p : ByteArray} {st : Put} {a : Nat} (h : L[k]? = some p) (h0 : (putP st p).2 ≠ 0) : runP (L.drop k) st a = (st, (putP st p).2, a) := by
  obtain ⟨hlt, he⟩ := List.getElem?_eq_some_iff.1 h
  rw [List.drop_eq_getElem_cons hlt, he]
  conv => lhs; unfold runP
  rw [if_neg h0]
theorem runP_end {L : List ByteArray} {k : Nat} {st : Put} {a : Nat} (h : L.length ≤ k) : runP (L.drop k) st a = (st, 0, a) := by
  rw [List.drop_eq_nil_of_le h]; rfl
def PRel (L : List ByteArray) (N : Nat) (w : World) (n : Nat) (t i : Value) (wr : World) : Prop :=
  ∃ (k : Nat) (st : Put) (a : Nat), n + k = L.length ∧ i = .int .i64 (k : Int) ∧ t = .int .i64 (a : Int) ∧ a ≤ 1 + k * 1000001 ∧ PutOk st ∧ runP L zeroPut 1 = runP (L.drop k) st a ∧
    Blk wr (N + 1 + 1) 231 (putC st) ∧ Blk wr N 64 #[Value.bool zeroF.last, .bool zeroF.next, .bool zeroF.chain, .bool zeroF.fin, .bool zeroF.forb, .bool zeroF.gone, .bool zeroF.app, .bool zeroF.disc, .int .i64 zeroF.skip, .int .i64 zeroF.red] ∧ Blk wr (N + 1) 33 #[.int .i64 0, .int .i64 0] ∧ Blk wr (N + 1 + 1 + 1) 9 (L.map Value.string).toArray ∧ Below N w wr
theorem start_rel (L : List ByteArray) (w : World) : PRel L w.heap.size w L.length (.int .i64 1) (.int .i64 0) ((((w.alloc (.cells #[Value.bool zeroF.last, .bool zeroF.next, .bool zeroF.chain, .bool zeroF.fin, .bool zeroF.forb, .bool zeroF.gone, .bool zeroF.app, .bool zeroF.disc, .int .i64 zeroF.skip, .int .i64 zeroF.red] 64)).alloc (.cells #[.int .i64 0, .int .i64 0] 33)).alloc (.cells (putC zeroPut) 231)).alloc (.cells (L.map Value.string).toArray 9)) := by
  obtain ⟨h1, h2, h3⟩ := two_blks w 0 0
  have e2 : ((w.alloc (.cells #[Value.bool zeroF.last, .bool zeroF.next, .bool zeroF.chain, .bool zeroF.fin, .bool zeroF.forb, .bool zeroF.gone, .bool zeroF.app, .bool zeroF.disc, .int .i64 zeroF.skip, .int .i64 zeroF.red] 64)).alloc (.cells #[.int .i64 0, .int .i64 0] 33)).heap.size = w.heap.size + 1 + 1 := by simp
  have b2 := Blk.new ((w.alloc (.cells #[Value.bool zeroF.last, .bool zeroF.next, .bool zeroF.chain, .bool zeroF.fin, .bool zeroF.forb, .bool zeroF.gone, .bool zeroF.app, .bool zeroF.disc, .int .i64 zeroF.skip, .int .i64 zeroF.red] 64)).alloc (.cells #[.int .i64 0, .int .i64 0] 33)) 231 (putC zeroPut)
  have e3 : (((w.alloc (.cells #[Value.bool zeroF.last, .bool zeroF.next, .bool zeroF.chain, .bool zeroF.fin, .bool zeroF.forb, .bool zeroF.gone, .bool zeroF.app, .bool zeroF.disc, .int .i64 zeroF.skip, .int .i64 zeroF.red] 64)).alloc (.cells #[.int .i64 0, .int .i64 0] 33)).alloc (.cells (putC zeroPut) 231)).heap.size = w.heap.size + 1 + 1 + 1 := by simp
  have b3 := Blk.new (((w.alloc (.cells #[Value.bool zeroF.last, .bool zeroF.next, .bool zeroF.chain, .bool zeroF.fin, .bool zeroF.forb, .bool zeroF.gone, .bool zeroF.app, .bool zeroF.disc, .int .i64 zeroF.skip, .int .i64 zeroF.red] 64)).alloc (.cells #[.int .i64 0, .int .i64 0] 33)).alloc (.cells (putC zeroPut) 231)) 9 (L.map Value.string).toArray
  rw [e2] at b2
  rw [e3] at b3
  exact ⟨0, zeroPut, 1, Nat.add_zero _, rfl, rfl, by omega, ⟨by decide, by decide⟩, rfl, b2.alloc _, (h1.alloc _).alloc _, (h2.alloc _).alloc _, b3, gr_alloc (gr_alloc h3 _) _⟩

/-- The fault written. -/
theorem set_fault {W w : World} {N : Nat} {cs : Array Value} (er a : Int) (hB : Blk W (N + 1 + 1) 231 cs) (hA : Blk W N 64 #[Value.bool zeroF.last, .bool zeroF.next, .bool zeroF.chain, .bool zeroF.fin, .bool zeroF.forb, .bool zeroF.gone, .bool zeroF.app, .bool zeroF.disc, .int .i64 zeroF.skip, .int .i64 zeroF.red]) (hF : Blk W (N + 1) 33 #[.int .i64 0, .int .i64 0]) (hb : Below N w W) :
    Blk ((W.setCell ⟨N + 1, 0, none⟩ (.int .i64 er)).setCell ⟨N + 1, 1, none⟩ (.int .i64 a)) (N + 1 + 1) 231 cs ∧
    Blk ((W.setCell ⟨N + 1, 0, none⟩ (.int .i64 er)).setCell ⟨N + 1, 1, none⟩ (.int .i64 a)) N 64 #[Value.bool zeroF.last, .bool zeroF.next, .bool zeroF.chain, .bool zeroF.fin, .bool zeroF.forb, .bool zeroF.gone, .bool zeroF.app, .bool zeroF.disc, .int .i64 zeroF.skip, .int .i64 zeroF.red] ∧
    Blk ((W.setCell ⟨N + 1, 0, none⟩ (.int .i64 er)).setCell ⟨N + 1, 1, none⟩ (.int .i64 a)) (N + 1) 33 #[.int .i64 er, .int .i64 a] ∧
    Below N w ((W.setCell ⟨N + 1, 0, none⟩ (.int .i64 er)).setCell ⟨N + 1, 1, none⟩ (.int .i64 a)) :=
  ⟨(hB.far (p := ⟨N + 1, 0, none⟩) (by simp) _).far (p := ⟨N + 1, 1, none⟩) (by simp) _, (hA.far (p := ⟨N + 1, 0, none⟩) (by simp) _).far (p := ⟨N + 1, 1, none⟩) (by simp) _, (hF.set_ 0 _).set_ 1 _, (hb.setCell (by simp) _).setCell (by simp) _⟩

/-- The results written. -/
theorem set_results {W w : World} {N : Nat} {cs : Array Value} (hs : cs.size = 10) (er a : Int) (f : Flg) (hA : Blk W N 64 cs) (hF : Blk W (N + 1) 33 #[.int .i64 er, .int .i64 a]) (hb : Below N w W) :
    Blk (((lay10 W N (.bool f.last) (.bool f.next) (.bool f.chain) (.bool f.fin) (.bool f.forb) (.bool f.gone) (.bool f.app) (.bool f.disc) (.int .i64 f.skip) (.int .i64 f.red)).setCell ⟨N + 1, 0, none⟩ (.int .i64 er)).setCell ⟨N + 1, 1, none⟩ (.int .i64 a)) N 64 #[Value.bool f.last, .bool f.next, .bool f.chain, .bool f.fin, .bool f.forb, .bool f.gone, .bool f.app, .bool f.disc, .int .i64 f.skip, .int .i64 f.red] ∧ Blk (((lay10 W N (.bool f.last) (.bool f.next) (.bool f.chain) (.bool f.fin) (.bool f.forb) (.bool f.gone) (.bool f.app) (.bool f.disc) (.int .i64 f.skip) (.int .i64 f.red)).setCell ⟨N + 1, 0, none⟩ (.int .i64 er)).setCell ⟨N + 1, 1, none⟩ (.int .i64 a)) (N + 1) 33 #[.int .i64 er, .int .i64 a] ∧ Below N w (((lay10 W N (.bool f.last) (.bool f.next) (.bool f.chain) (.bool f.fin) (.bool f.forb) (.bool f.gone) (.bool f.app) (.bool f.disc) (.int .i64 f.skip) (.int .i64 f.red)).setCell ⟨N + 1, 0, none⟩ (.int .i64 er)).setCell ⟨N + 1, 1, none⟩ (.int .i64 a)) := by
  refine ⟨?_, ?_, ?_⟩
  · exact ((lay10_same hA hs _ _ _ _ _ _ _ _ _ _).far (p := ⟨N + 1, 0, none⟩) (by simp) _).far (p := ⟨N + 1, 1, none⟩) (by simp) _
  · exact ((lay10_far hF (by simp) _ _ _ _ _ _ _ _ _ _).set_ 0 _).set_ 1 _
  · refine (Below.setCell (Below.setCell ?_ (by simp) _) (by simp) _)
    exact hb.trans ((lay10_x (BelowX.refl _ _ _) _ _ _ _ _ _ _ _ _ _).below (Nat.le_refl _) (Nat.le_refl _))

theorem set_fault1 {W w : World} {N : Nat} {cs : Array Value} (er : Int) (hB : Blk W (N + 1 + 1) 231 cs) (hA : Blk W N 64 #[Value.bool zeroF.last, .bool zeroF.next, .bool zeroF.chain, .bool zeroF.fin, .bool zeroF.forb, .bool zeroF.gone, .bool zeroF.app, .bool zeroF.disc, .int .i64 zeroF.skip, .int .i64 zeroF.red]) (hF : Blk W (N + 1) 33 #[.int .i64 0, .int .i64 0]) (hb : Below N w W) :
    Blk (W.setCell ⟨N + 1, 0, none⟩ (.int .i64 er)) (N + 1 + 1) 231 cs ∧
    Blk (W.setCell ⟨N + 1, 0, none⟩ (.int .i64 er)) N 64 #[Value.bool zeroF.last, .bool zeroF.next, .bool zeroF.chain, .bool zeroF.fin, .bool zeroF.forb, .bool zeroF.gone, .bool zeroF.app, .bool zeroF.disc, .int .i64 zeroF.skip, .int .i64 zeroF.red] ∧
    Blk (W.setCell ⟨N + 1, 0, none⟩ (.int .i64 er)) (N + 1) 33 #[.int .i64 er, .int .i64 0] ∧
    Below N w (W.setCell ⟨N + 1, 0, none⟩ (.int .i64 er)) :=
  ⟨hB.far (p := ⟨N + 1, 0, none⟩) (by simp) _, hA.far (p := ⟨N + 1, 0, none⟩) (by simp) _, hF.set_ 0 _, hb.setCell (by simp) _⟩
theorem done_end (st : Put) (a : Nat) : doneR (st, 0, a) = ((if wholeP st = 0 then st.f else zeroF), wholeP st, 0) := by
  unfold doneR
  rw [if_pos rfl]
  by_cases h : wholeP st = 0
  · rw [if_pos h, if_pos h, h]
  · rw [if_neg h, if_neg h]

set_option maxRecDepth 100000 in
set_option maxHeartbeats 1000000 in
theorem fparse_main (s : ByteArray) (h0 : 1 < s.size) (hs : s.size ≤ 1000000) (h : byS s 0 = 91) (h9 : byS s (s.size - 1) = 93) (w : World) (hT : Tabs w) (hm : MaxOk w) :
    Calls Tryz.prog 154 #[.string s] w (ParsePost w (doneR (runP (partsF s) zeroPut 1))) := by
  have hmf : ∀ (fn : Fn) (first cap : Array Value) (w : World), (Instr.makeFunc fn first cap).run Tryz.prog w = .ok (.func fn first cap) w := fun _ _ _ _ => rfl
  have hne := nonempty_b s (by omega)
  obtain ⟨d, hd⟩ : ∃ d, d = byS s 0 := ⟨_, rfl⟩
  have e0 := fun h' => get_byS s 0 h'
  simp only [← hd] at e0 h
  have q : ((d : Int) != 91) = false := by simp; omega
  have qs : ((s.size : Int) == 1) = false := by simp; omega
  obtain ⟨z, hz⟩ : ∃ z, z = byS s (s.size - 1) := ⟨_, rfl⟩
  have e9 := fun h' => get_byS s (s.size - 1) h'
  simp only [← hz] at e9 h9
  have q9 : ((z : Int) != 93) = false := by simp; omega
  clear hd h hz h9
  have hsl : ∀ W : World, (Instr.slice 9 (.string s) (some (.int .i64 1)) (some (.int .i64 ((s.size : Int) - 1))) none).run Tryz.prog W = .ok (.string (midS s)) W := fun W => by
    rw [run_slice_string_if _ _ _ _ _ _ _ Tryz.underlying9, if_pos (by omega), if_pos (by omega), show ((s.size : Int) - 1).toNat = s.size - 1 by omega]
    rfl
  have hsm : (midS s).size ≤ 1000000 := by unfold midS; rw [ext_len (by omega)]; omega
  have HT := Lib.hid (And.intro hT (And.intro (mid_split s h0) (And.intro (parts_len s h0) (And.intro (parts_small s h0) (parts_le s h0)))))
  have hmm := hm.below (gr_alloc (gr_alloc (gr_alloc (Below.refl w.heap.size w) (.cells #[Value.bool zeroF.last, .bool zeroF.next, .bool zeroF.chain, .bool zeroF.fin, .bool zeroF.forb, .bool zeroF.gone, .bool zeroF.app, .bool zeroF.disc, .int .i64 zeroF.skip, .int .i64 zeroF.red] 64)) (.cells #[.int .i64 0, .int .i64 0] 33)) (.cells (putC zeroPut) 231)) (Nat.le_refl _)
  obtain ⟨m, hmm⟩ := hmm
  have HM := Lib.hid (And.intro hm hmm)
  clear hT hm hmm
  go_enter_defers Tryz.func154, Tryz.ntmps154
  go_wp2_with (fail)
  go_step3
  go_wp2_with (fail)
  go_step3
  go_wp2_with (fail)
  refine (Tryz.strings_Split (midS s) ⟨#[44]⟩ m _ (by omega) (by exact HM.out.2) (by show 1 ≤ 1; omega)).mono ?_
  rintro e W1 ⟨rfl, hW1⟩
  rw [HT.out.2.1] at hW1
  have hst := start_rel (partsF s) w
  rw [show ((((w.alloc (.cells #[Value.bool zeroF.last, .bool zeroF.next, .bool zeroF.chain, .bool zeroF.fin, .bool zeroF.forb, .bool zeroF.gone, .bool zeroF.app, .bool zeroF.disc, .int .i64 zeroF.skip, .int .i64 zeroF.red] 64)).alloc (.cells #[.int .i64 0, .int .i64 0] 33)).alloc (.cells (putC zeroPut) 231)).alloc (.cells ((partsF s).map Value.string).toArray 9)) = W1 from hW1.symm] at hst
  clear hW1 hne e0 q qs e9 q9 hsl hsm
  have hn : Lib.countB (midS s) ⟨#[44]⟩ + 1 = (partsF s).length := HT.out.2.2.1.symm
  have hlen : (partsF s).length ≤ 1000000 := by have := HT.out.2.2.2.2; omega
  obtain ⟨L, hL⟩ : ∃ L, L = partsF s := ⟨_, rfl⟩
  rw [← hL] at hst hn hlen ⊢
  have HL := Lib.hid hL
  have HST := Lib.hid hst
  clear hL hst
  rw [hn]
  clear hn
  go_wp2_with (fail)
  go_loopg [5, 46] L.length (fun n t i wr => PRel L w.heap.size w n t i wr)
  case atStart => exact HST.out
  case round =>
    clear HST
    obtain ⟨k, st, a, hk, rfl, rfl, ha, hok, hrun, hbB, hbA, hbF, hbL, hbel⟩ := hrel
    have hbz := hbel.size
    have hl3 := hbL.lt
    have hf0 := hbF.frozen 0
    have hf1 := hbF.frozen 1
    have hc0 := hbF.cell' (i := 0) (v := .int .i64 0) rfl
    have hc1 := hbF.cell' (i := 1) (v := .int .i64 0) rfl
    by_cases hlt : k < L.length
    · obtain ⟨p, hp⟩ : ∃ p, L[k]? = some p := ⟨L[k], List.getElem?_eq_getElem hlt⟩
      have hps : p.size ≤ 1000000 := by
        have h1 := HT.out.2.2.2.1 p (by rw [← HL.out]; exact List.mem_of_getElem? hp)
        omega
      have hc := hbL.cell' (i := k) (v := .string p) (by rw [List.getElem?_toArray, List.getElem?_map, hp]; rfl)
      have H := Lib.hid (And.intro hp (And.intro hrun (And.intro hbB (And.intro hbA (And.intro hbF (And.intro hbL (And.intro hbel hok)))))))
      have HM2 := Lib.hid (HM.out.1.below hbel (Nat.le_refl _))
      clear hp hrun hbB hbA hbF hbL hbel hok hf0 hf1 hc0 hc1
      go_wp2_with (fail)
      refine (fpart (w.heap.size + 1 + 1) st p hps _ HM2.out H.out.2.2.1).mono ?_
      rintro e W2 ⟨rfl, hb2, hx2⟩
      have hA2 := hx2.blk H.out.2.2.2.1 (by omega) (by omega)
      have hF2 := hx2.blk H.out.2.2.2.2.1 (by omega) (by omega)
      have hL2 := hx2.blk H.out.2.2.2.2.2.1 (by omega) (by omega)
      have hbel2 := H.out.2.2.2.2.2.2.1.trans (hx2.below hbz (by omega))
      have hf0 := hF2.frozen 0
      have hf1 := hF2.frozen 1
      have hc0 := hF2.cell' (i := 0) (v := .int .i64 0) rfl
      have hc1 := hF2.cell' (i := 1) (v := .int .i64 0) rfl
      have hz2 := hL2.lt
      have HE : Hid ((putP st p).2 = (putP st p).2) := Lib.hid rfl
      obtain ⟨er, her⟩ : ∃ er, er = (putP st p).2 := ⟨_, rfl⟩
      have K := Lib.hid (And.intro hb2 (And.intro hA2 (And.intro hF2 (And.intro hL2 (And.intro hbel2 her)))))
      clear hb2 hx2 hA2 hF2 hL2 hbel2 HE
      rw [← her]
      clear her
      by_cases he : er = 0
      · have q : (er != 0) = false := by simp; exact he
        have HE := Lib.hid he
        clear he
        go_wp2_with (fail)
        go_roundg (L.length - (k + 1))
        case measure => omega
        case rel =>
          have hz : (putP st p).2 = 0 := K.out.2.2.2.2.2.symm.trans HE.out
          refine ⟨k + 1, (putP st p).1, a + p.size + 1, by omega, by go_num, by go_num, by omega, put_ok H.out.2.2.2.2.2.2.2 p, ?_, K.out.1, K.out.2.1, K.out.2.2.1, K.out.2.2.2.1, K.out.2.2.2.2.1⟩
          rw [H.out.2.1]
          exact runP_step H.out.1 hz
      · have q : (er != 0) = true := by simp; exact he
        have q2 : (er == 0) = false := by simp; exact he
        have HE := Lib.hid he
        clear he
        go_wp2_with (fail)
        obtain ⟨W3, hW3⟩ : ∃ W3, W3 = (W2.setCell ⟨w.heap.size + 1, 0, none⟩ (.int .i64 er)).setCell ⟨w.heap.size + 1, 1, none⟩ (.int .i64 (a : Int)) := ⟨_, rfl⟩
        have G := Lib.hid (set_fault er (a : Int) K.out.1 K.out.2.1 K.out.2.2.1 K.out.2.2.2.2.1)
        rw [← hW3] at G ⊢
        have hr : Hid (doneR (runP (partsF s) zeroPut 1) = (zeroF, er, a)) := Lib.hid (by rw [← HL.out, H.out.2.1, runP_stop H.out.1 (by rw [← K.out.2.2.2.2.2]; exact HE.out), ← K.out.2.2.2.2.2]; unfold doneR; exact if_neg HE.out)
        clear hW3 hf0 hf1 hc0 hc1 hz2 K H hc
        obtain ⟨sp, hsp⟩ : ∃ sp, sp = (putP st p).1 := ⟨_, rfl⟩
        rw [← hsp] at G
        clear hsp
        have c0 : W3.cell? ⟨w.heap.size + 1 + 1, 0, none⟩ = some (.bool sp.f.last) := G.out.1.cell' (i := 0) rfl
        have c1 : W3.cell? ⟨w.heap.size + 1 + 1, 1, none⟩ = some (.bool sp.f.next) := G.out.1.cell' (i := 1) rfl
        have c2 : W3.cell? ⟨w.heap.size + 1 + 1, 2, none⟩ = some (.bool sp.f.chain) := G.out.1.cell' (i := 2) rfl
        have c3 : W3.cell? ⟨w.heap.size + 1 + 1, 3, none⟩ = some (.bool sp.f.fin) := G.out.1.cell' (i := 3) rfl
        have c4 : W3.cell? ⟨w.heap.size + 1 + 1, 4, none⟩ = some (.bool sp.f.forb) := G.out.1.cell' (i := 4) rfl
        have c5 : W3.cell? ⟨w.heap.size + 1 + 1, 5, none⟩ = some (.bool sp.f.gone) := G.out.1.cell' (i := 5) rfl
        have c6 : W3.cell? ⟨w.heap.size + 1 + 1, 6, none⟩ = some (.bool sp.f.app) := G.out.1.cell' (i := 6) rfl
        have c7 : W3.cell? ⟨w.heap.size + 1 + 1, 7, none⟩ = some (.bool sp.f.disc) := G.out.1.cell' (i := 7) rfl
        have c8 : W3.cell? ⟨w.heap.size + 1 + 1, 8, none⟩ = some (.int .i64 sp.f.skip) := G.out.1.cell' (i := 8) rfl
        have c9 : W3.cell? ⟨w.heap.size + 1 + 1, 9, none⟩ = some (.int .i64 sp.f.red) := G.out.1.cell' (i := 9) rfl
        have d0 := G.out.2.2.1.cell' (i := 0) (v := .int .i64 er) rfl
        have d1 := G.out.2.2.1.cell' (i := 1) (v := .int .i64 (a : Int)) rfl
        have a0 : W3.cell? ⟨w.heap.size, 0, none⟩ = some (.bool false) := G.out.2.1.cell' (i := 0) rfl
        have a1 : W3.cell? ⟨w.heap.size, 1, none⟩ = some (.bool false) := G.out.2.1.cell' (i := 1) rfl
        have a2 : W3.cell? ⟨w.heap.size, 2, none⟩ = some (.bool false) := G.out.2.1.cell' (i := 2) rfl
        have a3 : W3.cell? ⟨w.heap.size, 3, none⟩ = some (.bool false) := G.out.2.1.cell' (i := 3) rfl
        have a4 : W3.cell? ⟨w.heap.size, 4, none⟩ = some (.bool false) := G.out.2.1.cell' (i := 4) rfl
        have a5 : W3.cell? ⟨w.heap.size, 5, none⟩ = some (.bool false) := G.out.2.1.cell' (i := 5) rfl
        have a6 : W3.cell? ⟨w.heap.size, 6, none⟩ = some (.bool false) := G.out.2.1.cell' (i := 6) rfl
        have a7 : W3.cell? ⟨w.heap.size, 7, none⟩ = some (.bool false) := G.out.2.1.cell' (i := 7) rfl
        have a8 : W3.cell? ⟨w.heap.size, 8, none⟩ = some (.int .i64 0) := G.out.2.1.cell' (i := 8) rfl
        have a9 : W3.cell? ⟨w.heap.size, 9, none⟩ = some (.int .i64 0) := G.out.2.1.cell' (i := 9) rfl
        have f0 := G.out.2.1.frozen 0
        have f1 := G.out.2.1.frozen 1
        have f2 := G.out.2.1.frozen 2
        have f3 := G.out.2.1.frozen 3
        have f4 := G.out.2.1.frozen 4
        have f5 := G.out.2.1.frozen 5
        have f6 := G.out.2.1.frozen 6
        have f7 := G.out.2.1.frozen 7
        have f8 := G.out.2.1.frozen 8
        have f9 := G.out.2.1.frozen 9
        have g0 := G.out.2.2.1.frozen 0
        have g1 := G.out.2.2.1.frozen 1
        have hl1 := G.out.1.lt
        go_region
        go_wp2_with (fail)
        rw [Exit.noGoto_ret]
        have R := set_results rfl er (a : Int) sp.f G.out.2.1 G.out.2.2.1 G.out.2.2.2
        exact parse_door (f := sp.f) rfl rfl R.1.drew R.2.1.drew (by simp) (gr_drew R.2.2) (Nat.le_refl _) ⟨by rw [hr.out, if_neg HE.out], by rw [hr.out], by rw [hr.out]⟩
    · obtain rfl : k = L.length := by omega
      have HT2 := Lib.hid (HT.out.1.below hbel (Nat.le_refl _))
      have H := Lib.hid (And.intro hrun (And.intro hbB (And.intro hbA (And.intro hbF (And.intro hbL (And.intro hbel hok))))))
      clear hrun hbB hbA hbF hbL hbel hok
      go_wp2_with (fail)
      refine (fcheckB (w.heap.size + 1 + 1) st H.out.2.2.2.2.2.2 _ HT2.out H.out.2.1).mono ?_
      rintro e W2 ⟨rfl, h2⟩
      clear hf0 hf1 hc0 hc1 hl3
      have K := Lib.hid (And.intro (H.out.2.1.call h2) (And.intro (H.out.2.2.1.call h2) (And.intro (H.out.2.2.2.1.call h2) (gr_call H.out.2.2.2.2.2.1 h2))))
      clear h2
      have hf0 := K.out.2.2.1.frozen 0
      have hc0 := K.out.2.2.1.cell' (i := 0) (v := .int .i64 0) rfl
      have hz2 := K.out.2.2.1.lt
      obtain ⟨er, her⟩ : ∃ er, er = wholeP st := ⟨_, rfl⟩
      have HER := Lib.hid her
      rw [← her]
      clear her
      go_wp2_with (fail)
      obtain ⟨W3, hW3⟩ : ∃ W3, W3 = W2.setCell ⟨w.heap.size + 1, 0, none⟩ (.int .i64 er) := ⟨_, rfl⟩
      have G := Lib.hid (set_fault1 er K.out.1 K.out.2.1 K.out.2.2.1 K.out.2.2.2)
      rw [← hW3] at G ⊢
      have hr : Hid (doneR (runP (partsF s) zeroPut 1) = ((if er = 0 then st.f else zeroF), er, 0)) := Lib.hid (by rw [← HL.out, H.out.1, runP_end (Nat.le_refl _), done_end, ← HER.out])
      clear hW3 hf0 hc0 hz2 K H HER
      have c0 : W3.cell? ⟨w.heap.size + 1 + 1, 0, none⟩ = some (.bool st.f.last) := G.out.1.cell' (i := 0) rfl
      have c1 : W3.cell? ⟨w.heap.size + 1 + 1, 1, none⟩ = some (.bool st.f.next) := G.out.1.cell' (i := 1) rfl
      have c2 : W3.cell? ⟨w.heap.size + 1 + 1, 2, none⟩ = some (.bool st.f.chain) := G.out.1.cell' (i := 2) rfl
      have c3 : W3.cell? ⟨w.heap.size + 1 + 1, 3, none⟩ = some (.bool st.f.fin) := G.out.1.cell' (i := 3) rfl
      have c4 : W3.cell? ⟨w.heap.size + 1 + 1, 4, none⟩ = some (.bool st.f.forb) := G.out.1.cell' (i := 4) rfl
      have c5 : W3.cell? ⟨w.heap.size + 1 + 1, 5, none⟩ = some (.bool st.f.gone) := G.out.1.cell' (i := 5) rfl
      have c6 : W3.cell? ⟨w.heap.size + 1 + 1, 6, none⟩ = some (.bool st.f.app) := G.out.1.cell' (i := 6) rfl
      have c7 : W3.cell? ⟨w.heap.size + 1 + 1, 7, none⟩ = some (.bool st.f.disc) := G.out.1.cell' (i := 7) rfl
      have c8 : W3.cell? ⟨w.heap.size + 1 + 1, 8, none⟩ = some (.int .i64 st.f.skip) := G.out.1.cell' (i := 8) rfl
      have c9 : W3.cell? ⟨w.heap.size + 1 + 1, 9, none⟩ = some (.int .i64 st.f.red) := G.out.1.cell' (i := 9) rfl
      have d0 := G.out.2.2.1.cell' (i := 0) (v := .int .i64 er) rfl
      have d1 := G.out.2.2.1.cell' (i := 1) (v := .int .i64 0) rfl
      have a0 : W3.cell? ⟨w.heap.size, 0, none⟩ = some (.bool false) := G.out.2.1.cell' (i := 0) rfl
      have a1 : W3.cell? ⟨w.heap.size, 1, none⟩ = some (.bool false) := G.out.2.1.cell' (i := 1) rfl
      have a2 : W3.cell? ⟨w.heap.size, 2, none⟩ = some (.bool false) := G.out.2.1.cell' (i := 2) rfl
      have a3 : W3.cell? ⟨w.heap.size, 3, none⟩ = some (.bool false) := G.out.2.1.cell' (i := 3) rfl
      have a4 : W3.cell? ⟨w.heap.size, 4, none⟩ = some (.bool false) := G.out.2.1.cell' (i := 4) rfl
      have a5 : W3.cell? ⟨w.heap.size, 5, none⟩ = some (.bool false) := G.out.2.1.cell' (i := 5) rfl
      have a6 : W3.cell? ⟨w.heap.size, 6, none⟩ = some (.bool false) := G.out.2.1.cell' (i := 6) rfl
      have a7 : W3.cell? ⟨w.heap.size, 7, none⟩ = some (.bool false) := G.out.2.1.cell' (i := 7) rfl
      have a8 : W3.cell? ⟨w.heap.size, 8, none⟩ = some (.int .i64 0) := G.out.2.1.cell' (i := 8) rfl
      have a9 : W3.cell? ⟨w.heap.size, 9, none⟩ = some (.int .i64 0) := G.out.2.1.cell' (i := 9) rfl
      have f0 := G.out.2.1.frozen 0
      have f1 := G.out.2.1.frozen 1
      have f2 := G.out.2.1.frozen 2
      have f3 := G.out.2.1.frozen 3
      have f4 := G.out.2.1.frozen 4
      have f5 := G.out.2.1.frozen 5
      have f6 := G.out.2.1.frozen 6
      have f7 := G.out.2.1.frozen 7
      have f8 := G.out.2.1.frozen 8
      have f9 := G.out.2.1.frozen 9
      have g0 := G.out.2.2.1.frozen 0
      have g1 := G.out.2.2.1.frozen 1
      have hl1 := G.out.1.lt
      go_region
      go_wp2_with (fail)
      rw [Exit.noGoto_ret]
      have R := set_results rfl er 0 st.f G.out.2.1 G.out.2.2.1 G.out.2.2.2
      exact parse_door (f := st.f) rfl rfl R.1.drew R.2.1.drew (by simp) (gr_drew R.2.2) (Nat.le_refl _) ⟨by rw [hr.out], by rw [hr.out], by rw [hr.out]; rfl⟩
/-- What flag.Parse returns. -/
def parseS (s : ByteArray) : Flg × Int × Nat := parseF (partsF s) s
theorem fparse (s : ByteArray) (hs : s.size ≤ 1000000) (w : World) (hT : Tabs w) (hm : MaxOk w) : Calls Tryz.prog 154 #[.string s] w (ParsePost w (parseS s)) := by
  unfold parseS parseF
  by_cases h0 : s.size = 0
  · rw [if_pos h0]
    obtain rfl := empty_of_size h0
    exact fparse_empty w
  · rw [if_neg h0]
    by_cases h1 : byS s 0 = 91
    · rw [if_neg (by simp [h1])]
      by_cases h2 : s.size = 1
      · rw [if_pos h2]
        exact fparse_one s h2 h1 w
      · rw [if_neg h2]
        by_cases h3 : byS s (s.size - 1) = 93
        · rw [if_neg (by simp [h3])]
          exact fparse_main s (by omega) hs h1 h3 w hT hm
        · rw [if_pos h3]
          exact fparse_tail s (by omega) hs h1 h3 w
    · rw [if_pos h1]
      exact fparse_head s (by omega) hs h1 w
end Go.Proofs.YthpcbaamkeiffaaGreatDoor
