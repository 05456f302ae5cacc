/-
  Parse, of byteset and of its reference: as the plain function says; no condition.
-/
import Derived.Test.YtcfdadgijnmemaaDoorSetS
namespace Go.Proofs.YtcfdadgijnmemaaDoor
open Go.RowKit
set_option linter.unusedVariables false
set_option linter.unusedSimpArgs false

theorem rng_cells {W : World} {n lo hi : Nat} {t : TypeId} (hn : Blk W n t #[.int .u8 (lo : Int), .int .u8 (hi : Int)]) : Cells W (some ⟨n, 0, none⟩) 2 1 (rngAt (fun _ => lo) (fun _ => hi)) := by
  refine fun _ => ⟨_, _, rfl, hn.lt, fun i j hi' hj => ?_⟩
  obtain rfl : i = 0 := by omega
  have h := hn.cell j
  rw [Nat.zero_mul, Nat.add_zero, Nat.zero_add, h]
  match j, hj with
  | 0, _ => rfl
  | 1, _ => rfl
theorem branges1 (n lo hi cap : Nat) (hlo : lo < 256) (hhi : hi < 256) (W : World) (t : TypeId) (hn : Blk W n t #[.int .u8 (lo : Int), .int .u8 (hi : Int)]) :
    Calls Tryd.prog 11 #[.slice (some ⟨n, 0, none⟩) 1 cap] W fun e w' => ∃ x : Int, e = .returned (.tuple #[Value.agg #[.int .u64 (setW (rngV (fun _ => lo) (fun _ => hi) 1) 0 : Int), .int .u64 (setW (rngV (fun _ => lo) (fun _ => hi) 1) 1 : Int), .int .u64 (setW (rngV (fun _ => lo) (fun _ => hi) 1) 2 : Int), .int .u64 (setW (rngV (fun _ => lo) (fun _ => hi) 1) 3 : Int)], .int .i64 x]) ∧ Below W.heap.size W w' :=
  (branges _ 1 cap (fun _ => lo) (fun _ => hi) (fun _ => hlo) (fun _ => hhi) (by decide) _ (rng_cells hn)).mono fun e w' h => ⟨_, h.1, h.2⟩
theorem rranges1 (n lo hi cap : Nat) (hlo : lo < 256) (hhi : hi < 256) (W : World) (t : TypeId) (hn : Blk W n t #[.int .u8 (lo : Int), .int .u8 (hi : Int)]) :
    Calls Tryd.prog 12 #[.slice (some ⟨n, 0, none⟩) 1 cap] W fun e w' => ∃ x : Int, e = .returned (.tuple #[Value.agg #[.int .u64 (setW (rngV (fun _ => lo) (fun _ => hi) 1) 0 : Int), .int .u64 (setW (rngV (fun _ => lo) (fun _ => hi) 1) 1 : Int), .int .u64 (setW (rngV (fun _ => lo) (fun _ => hi) 1) 2 : Int), .int .u64 (setW (rngV (fun _ => lo) (fun _ => hi) 1) 3 : Int)], .int .i64 x]) ∧ Below W.heap.size W w' :=
  (rranges _ 1 cap (fun _ => lo) (fun _ => hi) (fun _ => hlo) (fun _ => hhi) (by decide) _ (rng_cells hn)).mono fun e w' h => ⟨_, h.1, h.2⟩
theorem runion2 (n cap : Nat) (p q : Nat → Bool) (W : World) (t : TypeId) (hn : Blk W n t #[Value.int .u64 (setW p 0 : Int), .int .u64 (setW p 1 : Int), .int .u64 (setW p 2 : Int), .int .u64 (setW p 3 : Int), Value.int .u64 (setW q 0 : Int), .int .u64 (setW q 1 : Int), .int .u64 (setW q 2 : Int), .int .u64 (setW q 3 : Int)]) :
    Calls Tryd.prog 16 #[.slice (some ⟨n, 0, none⟩) 2 cap] W fun e w' => e = .returned (Value.agg #[.int .u64 (setW (orP p q) 0 : Int), .int .u64 (setW (orP p q) 1 : Int), .int .u64 (setW (orP p q) 2 : Int), .int .u64 (setW (orP p q) 3 : Int)]) ∧ Below W.heap.size W w' := by
  refine (runion _ 2 cap (fun k => if k = 0 then p else q) (by decide) _ (fun _ => ⟨_, _, rfl, hn.lt, fun i j hi hj => ?_⟩)).mono ?_
  · have h := hn.cell (i * 4 + j)
    rw [Nat.zero_add, h]
    match i, j, hi, hj with
    | 0, 0, _, _ => rfl
    | 0, 1, _, _ => rfl
    | 0, 2, _, _ => rfl
    | 0, 3, _, _ => rfl
    | 1, 0, _, _ => rfl
    | 1, 1, _, _ => rfl
    | 1, 2, _, _ => rfl
    | 1, 3, _, _ => rfl
  rintro e w' ⟨rfl, hb⟩
  refine ⟨?_, hb⟩
  have : orL (fun k => if k = 0 then p else q) 2 = orP p q := by
    funext c; simp [orL, orP, noP]
  rw [this]
/-- The call's blocks: the result, the set, the set with nothing. -/
def PB (w : World) (q : Nat → Bool) (W : World) : Prop :=
  Blk W w.heap.size 28 #[.int .u64 0, .int .u64 0, .int .u64 0, .int .u64 0] ∧ Blk W (w.heap.size + 1) 28 #[Value.int .u64 (setW q 0 : Int), .int .u64 (setW q 1 : Int), .int .u64 (setW q 2 : Int), .int .u64 (setW q 3 : Int)] ∧ Blk W (w.heap.size + 1 + 1) 28 #[.int .u64 0, .int .u64 0, .int .u64 0, .int .u64 0] ∧ Below w.heap.size w W
theorem PB.start (w : World) : PB w noP (((w.alloc (.cells #[.int .u64 0, .int .u64 0, .int .u64 0, .int .u64 0] 28)).alloc (.cells #[.int .u64 0, .int .u64 0, .int .u64 0, .int .u64 0] 28)).alloc (.cells #[.int .u64 0, .int .u64 0, .int .u64 0, .int .u64 0] 28)) := by
  refine ⟨((Blk.new _ _ _).alloc _).alloc _, ?_, ?_, gr_alloc (gr_alloc (gr_alloc (Below.refl _ _) _) _) _⟩
  · have := setC_no
    unfold setC at this
    rw [this]
    simpa using (Blk.new (w.alloc (.cells #[.int .u64 0, .int .u64 0, .int .u64 0, .int .u64 0] 28)) 28 #[.int .u64 0, .int .u64 0, .int .u64 0, .int .u64 0]).alloc (.cells #[.int .u64 0, .int .u64 0, .int .u64 0, .int .u64 0] 28)
  · simpa using Blk.new ((w.alloc (.cells #[.int .u64 0, .int .u64 0, .int .u64 0, .int .u64 0] 28)).alloc (.cells #[.int .u64 0, .int .u64 0, .int .u64 0, .int .u64 0] 28)) 28 #[.int .u64 0, .int .u64 0, .int .u64 0, .int .u64 0]
theorem PB.call {w W W' : World} {q : Nat → Bool} (h : PB w q W) (hb : Below W.heap.size W W') : PB w q W' := ⟨h.1.call hb, h.2.1.call hb, h.2.2.1.call hb, gr_call h.2.2.2 hb⟩
theorem PB.alloc {w W : World} {q : Nat → Bool} (h : PB w q W) (o : Obj) : PB w q (W.alloc o) := ⟨h.1.alloc o, h.2.1.alloc o, h.2.2.1.alloc o, gr_alloc h.2.2.2 o⟩
theorem PB.store {w W : World} {q q' : Nat → Bool} (h : PB w q W) : PB w q' ((((W.setCell ⟨w.heap.size + 1, 0, none⟩ (.int .u64 (setW q' 0 : Int))).setCell ⟨w.heap.size + 1, 1, none⟩ (.int .u64 (setW q' 1 : Int))).setCell ⟨w.heap.size + 1, 2, none⟩ (.int .u64 (setW q' 2 : Int))).setCell ⟨w.heap.size + 1, 3, none⟩ (.int .u64 (setW q' 3 : Int))) :=
  ⟨(((h.1.far (by simp) _).far (by simp) _).far (by simp) _).far (by simp) _, blk_store h.2.1, (((h.2.2.1.far (by simp) _).far (by simp) _).far (by simp) _).far (by simp) _, gr_set (gr_set (gr_set (gr_set h.2.2.2 (by simp) _) (by simp) _) (by simp) _) (by simp) _⟩
theorem blk_at {W : World} {n : Nat} {t : TypeId} {cs : Array Value} (h : n = W.heap.size) : Blk (W.alloc (.cells cs t)) n t cs := by subst h; exact Blk.new _ _ _
theorem noV : Value.agg #[.int .u64 (setW noP 0 : Int), .int .u64 (setW noP 1 : Int), .int .u64 (setW noP 2 : Int), .int .u64 (setW noP 3 : Int)] = .agg #[.int .u64 0, .int .u64 0, .int .u64 0, .int .u64 0] := by rw [setW_no, setW_no, setW_no, setW_no]; rfl
def lenV : Value → Nat
  | .string u => u.size
  | _ => 0
theorem ne_toList (u : ByteArray) (h : 0 < u.size) : u.data.toList ≠ [] := by
  intro e
  have := size_data u
  rw [e] at this
  simp at this
  omega
theorem empty_toList (u : ByteArray) (h : ¬ 0 < u.size) : u = ⟨#[]⟩ := by apply ByteArray.ext; apply Array.eq_empty_of_size_eq_zero; show u.size = 0; omega
theorem nonempty_b (u : ByteArray) (h : 0 < u.size) : (u.toList == []) = false := by
  rw [Lib.toList_data]
  have := ne_toList u h
  cases e : u.data.toList with
  | nil => exact absurd e this
  | cons => rfl
theorem nonempty_e (u : ByteArray) (h : 0 < u.size) : u.toList.isEmpty = false := by
  rw [Lib.toList_data]
  have := ne_toList u h
  cases e : u.data.toList with
  | nil => exact absurd e this
  | cons => rfl

set_option maxRecDepth 100000 in
set_option maxHeartbeats 8000000 in
theorem bparse (s : ByteArray) (w : World) :
    Calls Tryd.prog 19 #[.string s] w fun e w' => e = .returned (.tuple #[Value.agg #[.int .u64 (setW ((parseP s).1) 0 : Int), .int .u64 (setW ((parseP s).1) 1 : Int), .int .u64 (setW ((parseP s).1) 2 : Int), .int .u64 (setW ((parseP s).1) 3 : Int)], .int .i64 (parseP s).2]) ∧ Below w.heap.size w w' := by
  by_cases hlong : 1024 < s.size
  · have fin : Hid (parseP s = (noP, 4)) := Lib.hid (by unfold parseP; rw [if_pos hlong])
    go_enter Tryd.func19, Tryd.ntmps19
    go_wp2_with (fail)
    refine bodyPost_ret (v := .tuple #[.agg #[.int .u64 0, .int .u64 0, .int .u64 0, .int .u64 0], .int .i64 4]) (by simp [results, Tryd.results19, go_sem]) rfl ⟨by rw [fin.out]; show _ = Ending.returned (.tuple #[Value.agg #[.int .u64 (setW noP 0 : Int), .int .u64 (setW noP 1 : Int), .int .u64 (setW noP 2 : Int), .int .u64 (setW noP 3 : Int)], .int .i64 4]); rw [noV], ?_⟩
    have h2 := Below.refl w.heap.size w
    repeat (first | exact h2 | refine gr_set ?_ (by simp) _ | refine gr_alloc ?_ _)
  · have hs : s.size ≤ 1024 := by omega
    have finS : Hid (parseP s = prsL noP s.data.toList) := Lib.hid (by unfold parseP; rw [if_neg hlong])
    clear hlong
    go_enter Tryd.func19, Tryd.ntmps19
    go_wp2_with (fail)
    go_loopw [0] (fun v wr => ∃ (u : ByteArray) (q : Nat → Bool), v = .string u ∧ u.size ≤ 1024 ∧ prsL q u.data.toList = prsL noP s.data.toList ∧ PB w q wr) (fun v _ => lenV v)
    case atStart => exact ⟨s, noP, rfl, hs, rfl, PB.start w⟩
    case round =>
      obtain ⟨u, q, rfl, hu, hprs, hpb⟩ := hrel
      by_cases h1 : 0 < u.size
      · have he := nonempty_e u h1
        have he2 := nonempty_b u h1
        have hne := ne_toList u h1
        have hr := rdB_bound u.data.toList
        rw [size_data] at hr
        obtain ⟨lo, hlo⟩ : ∃ lo, lo = (rdB u.data.toList).1 := ⟨_, rfl⟩
        obtain ⟨n, hn⟩ : ∃ n, n = (rdB u.data.toList).2 := ⟨_, rfl⟩
        rw [← hlo, ← hn] at hr
        obtain ⟨hr1, hr2, hr3⟩ := hr
        have cr : Hid (∀ W : World, Calls Tryd.prog 42 #[.string u] W fun e w' => e = .returned (.tuple #[.int .u8 (lo : Int), .int .i64 (n : Int)]) ∧ Below W.heap.size W w') := Lib.hid (fun W => by
          have h := bread u (by omega) W
          unfold RdPost at h
          rw [← hlo, ← hn] at h
          exact h)
        have HPR := Lib.hid (And.intro hprs (And.intro hpb (And.intro hne (And.intro hlo hn))))
        clear hprs hlo hn hne
        by_cases hn0 : n = 0
        · have hnb : ((n : Int) == 0) = true := by rw [hn0]; rfl
          have fin : Hid (parseP s = (noP, 3)) := Lib.hid (by rw [finS.out, ← HPR.out.1]; exact prsL_bad _ _ HPR.out.2.2.1 (by rw [← HPR.out.2.2.2.2]; exact hn0))
          clear hn0 hpb
          go_wp2_with (fail)
          refine (cr.out _).mono ?_
          rintro e W1 ⟨rfl, hb1⟩
          have H1 := Lib.hid (HPR.out.2.1.call hb1)
          clear hb1
          have a0 := H1.out.1.cell' (i := 0) rfl
          have a1 := H1.out.1.cell' (i := 1) rfl
          have a2 := H1.out.1.cell' (i := 2) rfl
          have a3 := H1.out.1.cell' (i := 3) rfl
          have f0 := H1.out.1.frozen 0
          have f1 := H1.out.1.frozen 1
          have f2 := H1.out.1.frozen 2
          have f3 := H1.out.1.frozen 3
          have z0 := H1.out.2.2.1.cell' (i := 0) rfl
          have z1 := H1.out.2.2.1.cell' (i := 1) rfl
          have z2 := H1.out.2.2.1.cell' (i := 2) rfl
          have z3 := H1.out.2.2.1.cell' (i := 3) rfl
          have hsz := H1.out.2.1.lt
          go_wp2_with (fail)
          refine bodyPost_ret (v := .tuple #[.agg #[.int .u64 0, .int .u64 0, .int .u64 0, .int .u64 0], .int .i64 3]) (by simp [results, Tryd.results19, go_sem, a0, a1, a2, a3]) rfl ⟨by rw [fin.out]; show _ = Ending.returned (.tuple #[Value.agg #[.int .u64 (setW noP 0 : Int), .int .u64 (setW noP 1 : Int), .int .u64 (setW noP 2 : Int), .int .u64 (setW noP 3 : Int)], .int .i64 3]); rw [noV], ?_⟩
          have h2 := H1.out.2.2.2
          repeat (first | exact h2 | refine gr_set ?_ (by simp) _ | refine gr_alloc ?_ _)
        · have hnb : ((n : Int) == 0) = false := by simp; omega
          have HN0 := Lib.hid hn0
          obtain ⟨v, hv⟩ : ∃ v, v = u.extract n u.size := ⟨_, rfl⟩
          have hvl : v.data.toList = u.data.toList.drop n := by rw [hv]; exact ext_end u n
          have hvs : v.size = u.size - n := by rw [hv]; exact ext_end_size u n
          have HV := Lib.hid (And.intro hv (And.intro hvl hvs))
          have hvs2 : v.size < u.size := by omega
          have hvs3 : v.size ≤ 1024 := by omega
          clear hn0 hpb hv hvl hvs
          have hvE := HV.out.1.symm
          by_cases hv1 : 0 < v.size
          · have hve := nonempty_e v hv1
            have hve2 := nonempty_b v hv1
            obtain ⟨x, hx⟩ : ∃ x, x = v[0] := ⟨_, rfl⟩
            have hxS : v[0] = x := hx.symm
            have hxb := x.toNat_lt
            have hdr : Hid (u.data.toList.drop n = x :: v.data.toList.drop 1) := Lib.hid (by rw [← HV.out.2.1]; have := drop_at v 0 hv1; rw [hx]; simpa using this)
            clear hx
            by_cases hx45 : x = 45
            · have hxb45 : ((x.toNat : Int) == 45) = true := by rw [hx45]; rfl
              obtain ⟨y, hy⟩ : ∃ y, y = v.extract 1 v.size := ⟨_, rfl⟩
              have hyl : y.data.toList = v.data.toList.drop 1 := by rw [hy]; exact ext_end v 1
              have hys : y.size = v.size - 1 := by rw [hy]; exact ext_end_size v 1
              have hr := rdB_bound y.data.toList
              rw [size_data] at hr
              obtain ⟨hi, hhi⟩ : ∃ hi, hi = (rdB y.data.toList).1 := ⟨_, rfl⟩
              obtain ⟨m, hm⟩ : ∃ m, m = (rdB y.data.toList).2 := ⟨_, rfl⟩
              rw [← hhi, ← hm] at hr
              obtain ⟨hs1, hs2, hs3⟩ := hr
              have cr2 : Hid (∀ W : World, Calls Tryd.prog 42 #[.string y] W fun e w' => e = .returned (.tuple #[.int .u8 (hi : Int), .int .i64 (m : Int)]) ∧ Below W.heap.size W w') := Lib.hid (fun W => by
                have h := bread y (by omega) W
                unfold RdPost at h
                rw [← hhi, ← hm] at h
                exact h)
              have two : Hid (prsL q u.data.toList = if m = 0 then (noP, 3) else if hi ≤ lo then (noP, 8) else prsL (addR q lo hi) (y.data.toList.drop m)) := Lib.hid (by
                obtain ⟨_, _, h3, h4, h5⟩ := HPR.out
                have := prsL_two q u.data.toList y.data.toList h3 (by rw [← h5]; exact HN0.out) (by rw [← h5, hdr.out, hx45, hyl])
                rw [← h4, ← hhi, ← hm] at this
                exact this)
              have hys2 : y.size < v.size := by omega
              have HY := Lib.hid (And.intro hy (And.intro hyl hys))
              clear hx45 hy hyl hhi hm hys
              have hyE := HY.out.1.symm
              by_cases hm0 : m = 0
              · have hmb : ((m : Int) == 0) = true := by rw [hm0]; rfl
                have fin : Hid (parseP s = (noP, 3)) := Lib.hid (by rw [finS.out, ← HPR.out.1, two.out, if_pos hm0])
                clear hm0
                go_wp2_with (fail)
                refine (cr.out _).mono ?_
                rintro e W1 ⟨rfl, hb1⟩
                have H1 := Lib.hid (HPR.out.2.1.call hb1)
                clear hb1
                go_wp2_with (fail)
                refine (cr2.out _).mono ?_
                rintro e W2 ⟨rfl, hb2⟩
                have H2 := Lib.hid (H1.out.call hb2)
                clear hb2
                have a0 := H2.out.1.cell' (i := 0) rfl
                have a1 := H2.out.1.cell' (i := 1) rfl
                have a2 := H2.out.1.cell' (i := 2) rfl
                have a3 := H2.out.1.cell' (i := 3) rfl
                have f0 := H2.out.1.frozen 0
                have f1 := H2.out.1.frozen 1
                have f2 := H2.out.1.frozen 2
                have f3 := H2.out.1.frozen 3
                have z0 := H2.out.2.2.1.cell' (i := 0) rfl
                have z1 := H2.out.2.2.1.cell' (i := 1) rfl
                have z2 := H2.out.2.2.1.cell' (i := 2) rfl
                have z3 := H2.out.2.2.1.cell' (i := 3) rfl
                have hsz := H2.out.2.1.lt
                go_wp2_with (fail)
                refine bodyPost_ret (v := .tuple #[.agg #[.int .u64 0, .int .u64 0, .int .u64 0, .int .u64 0], .int .i64 3]) (by simp [results, Tryd.results19, go_sem, a0, a1, a2, a3]) rfl ⟨by rw [fin.out]; show _ = Ending.returned (.tuple #[Value.agg #[.int .u64 (setW noP 0 : Int), .int .u64 (setW noP 1 : Int), .int .u64 (setW noP 2 : Int), .int .u64 (setW noP 3 : Int)], .int .i64 3]); rw [noV], ?_⟩
                have h2 := H2.out.2.2.2
                repeat (first | exact h2 | refine gr_set ?_ (by simp) _ | refine gr_alloc ?_ _)
              · have hmb : ((m : Int) == 0) = false := by simp; omega
                by_cases hle : hi ≤ lo
                · have fin : Hid (parseP s = (noP, 8)) := Lib.hid (by rw [finS.out, ← HPR.out.1, two.out, if_neg hm0, if_pos hle])
                  clear hm0
                  go_wp2_with (fail)
                  refine (cr.out _).mono ?_
                  rintro e W1 ⟨rfl, hb1⟩
                  have H1 := Lib.hid (HPR.out.2.1.call hb1)
                  clear hb1
                  go_wp2_with (fail)
                  refine (cr2.out _).mono ?_
                  rintro e W2 ⟨rfl, hb2⟩
                  have H2 := Lib.hid (H1.out.call hb2)
                  clear hb2
                  have a0 := H2.out.1.cell' (i := 0) rfl
                  have a1 := H2.out.1.cell' (i := 1) rfl
                  have a2 := H2.out.1.cell' (i := 2) rfl
                  have a3 := H2.out.1.cell' (i := 3) rfl
                  have f0 := H2.out.1.frozen 0
                  have f1 := H2.out.1.frozen 1
                  have f2 := H2.out.1.frozen 2
                  have f3 := H2.out.1.frozen 3
                  have z0 := H2.out.2.2.1.cell' (i := 0) rfl
                  have z1 := H2.out.2.2.1.cell' (i := 1) rfl
                  have z2 := H2.out.2.2.1.cell' (i := 2) rfl
                  have z3 := H2.out.2.2.1.cell' (i := 3) rfl
                  have hsz := H2.out.2.1.lt
                  go_wp2_with (fail)
                  refine bodyPost_ret (v := .tuple #[.agg #[.int .u64 0, .int .u64 0, .int .u64 0, .int .u64 0], .int .i64 8]) (by simp [results, Tryd.results19, go_sem, a0, a1, a2, a3]) rfl ⟨by rw [fin.out]; show _ = Ending.returned (.tuple #[Value.agg #[.int .u64 (setW noP 0 : Int), .int .u64 (setW noP 1 : Int), .int .u64 (setW noP 2 : Int), .int .u64 (setW noP 3 : Int)], .int .i64 8]); rw [noV], ?_⟩
                  have h2 := H2.out.2.2.2
                  repeat (first | exact h2 | refine gr_set ?_ (by simp) _ | refine gr_alloc ?_ _)
                · have go : Hid (prsL (addR q lo hi) ((v.extract (1 + m) v.size).data.toList) = prsL noP s.data.toList) := Lib.hid (by
                    rw [ext_end, ← HPR.out.1, two.out, if_neg hm0, if_neg hle, HY.out.2.1, List.drop_drop])
                  have hes := ext_end_size v (1 + m)
                  have HES := Lib.hid hes
                  clear hm0 hes
                  go_wp2_with (fail)
                  refine (cr.out _).mono ?_
                  rintro e W1 ⟨rfl, hb1⟩
                  have H1 := Lib.hid (HPR.out.2.1.call hb1)
                  clear hb1
                  go_wp2_with (fail)
                  refine (cr2.out _).mono ?_
                  rintro e W2 ⟨rfl, hb2⟩
                  have H2 := Lib.hid (H1.out.call hb2)
                  clear hb2
                  go_wp2_with (fail)
                  refine (branges1 _ lo hi _ (by omega) (by omega) _ 35 (Blk.new _ _ _)).mono ?_
                  rintro e W5 ⟨xe, rfl, hb5⟩
                  have HP5 := Lib.hid ((H2.out.alloc _).call hb5)
                  clear hb5
                  have q0 := HP5.out.2.1.cell' (i := 0) rfl
                  have q1 := HP5.out.2.1.cell' (i := 1) rfl
                  have q2 := HP5.out.2.1.cell' (i := 2) rfl
                  have q3 := HP5.out.2.1.cell' (i := 3) rfl
                  have hsz5 := HP5.out.2.1.lt
                  go_wp2_with (fail)
                  refine (bunion2 _ _ _ _ _ 28 (blk_at (by simp))).mono ?_
                  rintro e W6 ⟨rfl, hb6⟩
                  have HP6 := Lib.hid (((HP5.out.alloc _).alloc _).call hb6)
                  clear hb6 q0 q1 q2 q3
                  have c0 := HP6.out.2.1.cell' (i := 0) rfl
                  have c1 := HP6.out.2.1.cell' (i := 1) rfl
                  have c2 := HP6.out.2.1.cell' (i := 2) rfl
                  have c3 := HP6.out.2.1.cell' (i := 3) rfl
                  have g0 := HP6.out.2.1.frozen 0
                  have g1 := HP6.out.2.1.frozen 1
                  have g2 := HP6.out.2.1.frozen 2
                  have g3 := HP6.out.2.1.frozen 3
                  go_wp2_with (fail)
                  refine ⟨⟨_, addR q lo hi, rfl, by rw [HES.out]; omega, go.out, HP6.out.store⟩, ?_⟩
                  show (v.extract (1 + m) v.size).size < u.size
                  rw [HES.out]; omega
            · have hxb45 : ((x.toNat : Int) == 45) = false := by
                rw [beq_eq_false_iff_ne]
                intro h
                exact hx45 (u8_ext (by rw [h]; rfl))
              have go : Hid (prsL (addR q lo lo) v.data.toList = prsL noP s.data.toList) := Lib.hid (by
                obtain ⟨h1, _, h3, h4, h5⟩ := HPR.out
                have := prsL_one q u.data.toList h3 (by rw [← h5]; exact HN0.out) (by rw [← h5, hdr.out]; intro t ht; injection ht with ht _; exact hx45 ht)
                rw [← h4, ← h5, ← HV.out.2.1] at this
                rw [← this]; exact h1)
              clear hx45
              go_wp2_with (fail)
              refine (cr.out _).mono ?_
              rintro e W1 ⟨rfl, hb1⟩
              have H1 := Lib.hid (HPR.out.2.1.call hb1)
              clear hb1
              go_wp2_with (fail)
              go_wp2_with (fail)
              refine (branges1 _ lo lo _ (by omega) (by omega) _ 35 (Blk.new _ _ _)).mono ?_
              rintro e W5 ⟨xe, rfl, hb5⟩
              have HP5 := Lib.hid ((H1.out.alloc _).call hb5)
              clear hb5
              have q0 := HP5.out.2.1.cell' (i := 0) rfl
              have q1 := HP5.out.2.1.cell' (i := 1) rfl
              have q2 := HP5.out.2.1.cell' (i := 2) rfl
              have q3 := HP5.out.2.1.cell' (i := 3) rfl
              have hsz5 := HP5.out.2.1.lt
              go_wp2_with (fail)
              refine (bunion2 _ _ _ _ _ 28 (blk_at (by simp))).mono ?_
              rintro e W6 ⟨rfl, hb6⟩
              have HP6 := Lib.hid (((HP5.out.alloc _).alloc _).call hb6)
              clear hb6 q0 q1 q2 q3
              have c0 := HP6.out.2.1.cell' (i := 0) rfl
              have c1 := HP6.out.2.1.cell' (i := 1) rfl
              have c2 := HP6.out.2.1.cell' (i := 2) rfl
              have c3 := HP6.out.2.1.cell' (i := 3) rfl
              have g0 := HP6.out.2.1.frozen 0
              have g1 := HP6.out.2.1.frozen 1
              have g2 := HP6.out.2.1.frozen 2
              have g3 := HP6.out.2.1.frozen 3
              go_wp2_with (fail)
              exact ⟨⟨v, addR q lo lo, rfl, by omega, go.out, HP6.out.store⟩, hvs2⟩
          · have hv0 := empty_toList v hv1
            have go : Hid (prsL (addR q lo lo) v.data.toList = prsL noP s.data.toList) := Lib.hid (by
              obtain ⟨h1, _, h3, h4, h5⟩ := HPR.out
              have := prsL_one q u.data.toList h3 (by rw [← h5]; exact HN0.out) (by rw [← h5, ← HV.out.2.1, hv0]; intro t ht; cases ht)
              rw [← h4, ← h5, ← HV.out.2.1] at this
              rw [← this]; exact h1)
            subst hv0
            clear hv1
            go_wp2_with (fail)
            refine (cr.out _).mono ?_
            rintro e W1 ⟨rfl, hb1⟩
            have H1 := Lib.hid (HPR.out.2.1.call hb1)
            clear hb1
            go_wp2_with (fail)
            go_wp2_with (fail)
            refine (branges1 _ lo lo _ (by omega) (by omega) _ 35 (Blk.new _ _ _)).mono ?_
            rintro e W5 ⟨xe, rfl, hb5⟩
            have HP5 := Lib.hid ((H1.out.alloc _).call hb5)
            clear hb5
            have q0 := HP5.out.2.1.cell' (i := 0) rfl
            have q1 := HP5.out.2.1.cell' (i := 1) rfl
            have q2 := HP5.out.2.1.cell' (i := 2) rfl
            have q3 := HP5.out.2.1.cell' (i := 3) rfl
            have hsz5 := HP5.out.2.1.lt
            go_wp2_with (fail)
            refine (bunion2 _ _ _ _ _ 28 (blk_at (by simp))).mono ?_
            rintro e W6 ⟨rfl, hb6⟩
            have HP6 := Lib.hid (((HP5.out.alloc _).alloc _).call hb6)
            clear hb6 q0 q1 q2 q3
            have c0 := HP6.out.2.1.cell' (i := 0) rfl
            have c1 := HP6.out.2.1.cell' (i := 1) rfl
            have c2 := HP6.out.2.1.cell' (i := 2) rfl
            have c3 := HP6.out.2.1.cell' (i := 3) rfl
            have g0 := HP6.out.2.1.frozen 0
            have g1 := HP6.out.2.1.frozen 1
            have g2 := HP6.out.2.1.frozen 2
            have g3 := HP6.out.2.1.frozen 3
            go_wp2_with (fail)
            exact ⟨⟨_, addR q lo lo, rfl, by omega, go.out, HP6.out.store⟩, hvs2⟩
      · have hE := empty_toList u h1
        subst hE
        have fin : Hid (parseP s = (q, 0)) := Lib.hid (by rw [finS.out, ← hprs]; exact prsL_nil q)
        have HB := Lib.hid hpb
        have a0 := hpb.1.cell' (i := 0) rfl
        have a1 := hpb.1.cell' (i := 1) rfl
        have a2 := hpb.1.cell' (i := 2) rfl
        have a3 := hpb.1.cell' (i := 3) rfl
        have f0 := hpb.1.frozen 0
        have f1 := hpb.1.frozen 1
        have f2 := hpb.1.frozen 2
        have f3 := hpb.1.frozen 3
        have z0 := hpb.2.1.cell' (i := 0) rfl
        have z1 := hpb.2.1.cell' (i := 1) rfl
        have z2 := hpb.2.1.cell' (i := 2) rfl
        have z3 := hpb.2.1.cell' (i := 3) rfl
        have hsz := hpb.2.1.lt
        clear hprs hpb
        go_wp2_with (fail)
        refine bodyPost_ret (v := .tuple #[Value.agg #[.int .u64 (setW q 0 : Int), .int .u64 (setW q 1 : Int), .int .u64 (setW q 2 : Int), .int .u64 (setW q 3 : Int)], .int .i64 0]) (by simp [results, Tryd.results19, go_sem, a0, a1, a2, a3]) rfl ⟨by rw [fin.out], ?_⟩
        have h2 := HB.out.2.2.2
        repeat (first | exact h2 | refine gr_set ?_ (by simp) _ | refine gr_alloc ?_ _)
end Go.Proofs.YtcfdadgijnmemaaDoor
