/-
  The code's Parts, walked; condition: a variable of the library is an int.
-/
import Derived.Test.YtllhcfgddcjfkaaDoorRlP
import Derived.Test.YtllhcfgddcjfkaaDoorShelf
import Derived.Test.YtllhcfgddcjfkaaDoorRow
namespace Go.Proofs.YtllhcfgddcjfkaaDoor
open Go.RowKit
set_option linter.unusedVariables false
set_option linter.unusedSimpArgs false

/-- The library's variable is an int. -/
def MaxOk (w : World) : Prop := ∃ m, w.cell? ⟨0, 0, none⟩ = some (.int .i64 m)
theorem MaxOk.below {w w' : World} (h : MaxOk w) (hb : Below w.heap.size w w') : MaxOk w' := by
  obtain ⟨m, hm⟩ := h
  have hlt : 0 < w.heap.size := by
    rcases Nat.lt_or_ge 0 w.heap.size with h' | h'
    · exact h'
    · rw [World.cell?, Array.getElem?_eq_none h'] at hm
      simp at hm
  exact ⟨m, by rw [hb.cell (p := ⟨0, 0, none⟩) hlt]; exact hm⟩
theorem own_cell_at {W : World} {B e n : Nat} {v : Value} {xs : List Value} (h : W.ownsRow B e 1 v n xs) (hn : 0 < n) : ∃ g c, v = .slice (some ⟨g, 0, none⟩) n c ∧ g < W.heap.size ∧ ∀ j u, xs[j]? = some u → W.cell? ⟨g, j, none⟩ = some u := by
  rcases h.2 with ⟨rfl, h0⟩ | ⟨g, cap, cur, rfl, hBg, hg, _, _, _, htk⟩
  · omega
  · refine ⟨g, cap, rfl, (Array.getElem?_eq_some_iff.1 hg).1, fun j u hj => ?_⟩
    rw [← htk, List.getElem?_take] at hj
    split at hj
    · have := cell_of_row W g j cur _ _ hg
      rw [this]
      simpa using hj
    · cases hj
theorem row_new {w : World} {n : Nat} (hn : n = w.heap.size) (e : TypeId) (l : List Value) (cs : Array Value) (hl : l = cs.toList) : ∀ j u, l[j]? = some u → (w.alloc (.cells cs e)).cell? ((⟨n, 0, none⟩ : Addr).add j) = some u := by
  subst hn
  intro j u h
  rw [Addr.add_lit, Nat.zero_add, Blk.cell (Blk.new _ _ _)]
  rw [hl] at h
  simpa using h
theorem infoStr : (Tryd.prog.info? 9).map (fun i => (i.zero, i.size, i.bytes)) = some (some (.string ByteArray.empty), 1, 16) := by kernel_rfl
theorem own_split (w : World) (L : List ByteArray) (N : Nat) (h : L.length ≤ N) (hN : N ≤ 3) : (w.alloc (.cells (Lib.cellsOf L N) 9)).ownsRow w.heap.size 9 1 (.slice (some ⟨w.heap.size, 0, none⟩) L.length N) L.length (L.map Value.string) := by
  refine ⟨by simp, .inr ⟨w.heap.size, N, Lib.cellsOf L N, rfl, Nat.le_refl _, heap_alloc_new w _, h, by unfold maxLen; omega, by rw [Lib.cellsOf_size h]; omega, ?_⟩⟩
  unfold Lib.cellsOf
  simp

set_option maxRecDepth 100000 in
set_option maxHeartbeats 2000000 in
theorem bparts (s : ByteArray) (hs : s.size ≤ 1000000) (w : World) (hm : MaxOk w) :
    Calls Tryd.prog 12 #[.string s] w fun e W' => e = .returned (.tuple #[.string (pA s), .string (pB s), .string (pC s), .int .i64 (partN (byS s) s.size : Int)]) ∧ Below w.heap.size w W' := by
  obtain ⟨i0, hi, hz0, hz1, hz2⟩ := info_parts infoStr
  obtain ⟨m, hm⟩ := hm
  have hsp := Tryd.strings_SplitN s ⟨#[32]⟩ 3 m w (by omega) hm (by decide) (by decide) (by decide)
  rw [show ((3 : Nat) : Int) = 3 from rfl] at hsp
  obtain ⟨L, hL, hlen, hcap, h1, c0, c1, c2⟩ := split_three s
  rw [hL] at hsp
  have HS := Lib.hid hsp
  clear hsp hL hm
  go_enter Tryd.func12, Tryd.ntmps12
  go_wp2_with (fail)
  refine HS.out.mono ?_
  rintro e W1 ⟨rfl, rfl⟩
  have hown := own_split w L (min 3 (s.size + 1)) hcap (by omega)
  have hb1 : Below w.heap.size w (w.alloc (.cells (Lib.cellsOf L (min 3 (s.size + 1))) 9)) := gr_alloc (Below.refl _ _) _
  obtain ⟨W1, hW1⟩ : ∃ W1, W1 = w.alloc (.cells (Lib.cellsOf L (min 3 (s.size + 1))) 9) := ⟨_, rfl⟩
  obtain ⟨N, hN⟩ : ∃ N, N = min 3 (s.size + 1) := ⟨_, rfl⟩
  rw [← hW1] at hown hb1 ⊢
  rw [← hN] at hown hcap ⊢
  have hN3 : N ≤ 3 := by omega
  have HL := Lib.hid (And.intro hlen (And.intro c0 (And.intro c1 c2)))
  have H1 := Lib.hid (And.intro hown hb1)
  obtain ⟨xs, hxs⟩ : ∃ xs, xs = L.map Value.string := ⟨_, rfl⟩
  obtain ⟨n, hn⟩ : ∃ n, n = L.length := ⟨_, rfl⟩
  rw [← hxs, ← hn] at H1
  rw [← hn] at h1 hcap ⊢
  have hs1 := hb1.size
  have HX := Lib.hid (And.intro hxs hn)
  clear hown hb1 hW1 hN hxs hn hlen c0 c1 c2 HS hs
  go_wp2_with (at_builtin; refine wpList_append_own _ rfl _ _ 44 rfl w.heap.size 9 i0 (.string ByteArray.empty) 1 16 Tryd.underlying44 hi hz0 hz1 hz2 rfl (by decide) _ n xs rfl (H1.out.1.alloc _) ⟨W1.heap.size, 0, none⟩ 2 2 [.string ByteArray.empty, .string ByteArray.empty] rfl rfl ?c1 ?c2 ?c3 ?c4 ?c5 ?_)
  case c1 => exact row_new rfl _ _ _ rfl
  case c2 =>
    intro u hu
    have hu' : u = .string ByteArray.empty := by simpa using hu
    subst hu'
    rfl
  case c3 => unfold maxLen; omega
  case c4 => omega
  case c5 => simp; omega
  intro v2 W2 hown2 hgrow2 _
  have hb2 : Below w.heap.size w W2 := (gr_alloc H1.out.2 _).grown hgrow2 (by simp; omega) (fun q hq => (H1.out.1.lt q hq).1)
  obtain ⟨g, c, rfl, hg, hcell⟩ := own_cell_at hown2 (by omega)
  have ex : xs ++ [Value.string ByteArray.empty, Value.string ByteArray.empty] = (L ++ [ByteArray.empty, ByteArray.empty]).map Value.string := by rw [HX.out.1]; simp
  rw [ex] at hcell
  have d0 := hcell 0 (.string (pA s)) (by rw [List.getElem?_map, HL.out.2.1]; rfl)
  have d1 := hcell 1 (.string (pB s)) (by rw [List.getElem?_map, HL.out.2.2.1]; rfl)
  have d2 := hcell 2 (.string (pC s)) (by rw [List.getElem?_map, HL.out.2.2.2]; rfl)
  have H2 := Lib.hid hb2
  have hn3 : n ≤ 3 := by omega
  clear hb2 hown2 hgrow2 hcell ex hs1 H1 hcap
  go_wp2_with (fail)
  go_quiet (fail)
  go_wp2_with (fail)
  refine bodyPost_ret (v := .tuple #[.string (pA s), .string (pB s), .string (pC s), .int .i64 (n : Int)]) (by simp [results, Tryd.results12, go_sem]) rfl ⟨?_, below_drewN H2.out _⟩
  rw [HX.out.2, HL.out.1]

set_option maxRecDepth 100000 in
set_option maxHeartbeats 2000000 in
theorem bread (s : ByteArray) (hs : s.size ≤ 1000000) (w : World) (hm : MaxOk w) :
    Calls Tryd.prog 28 #[.string s] w fun e W' => e = .returned (.agg #[.string (pA s), .string (pB s), .string (pC s), .int .i64 (partN (byS s) s.size : Int)]) ∧ Below w.heap.size w W' := by
  have HM := Lib.hid hm
  clear hm
  have z0 := gr_alloc (gr_alloc (Below.refl w.heap.size w) (.cells #[.string { data := #[] }, .string { data := #[] }, .string { data := #[] }, .int .i64 0] 49)) (.cells #[.string { data := #[] }, .string { data := #[] }, .string { data := #[] }, .int .i64 0] 49)
  have HZ := Lib.hid z0
  clear z0
  go_enter Tryd.func28, Tryd.ntmps28
  go_wp2_with (fail)
  refine (bparts s hs _ (HM.out.below HZ.out)).mono ?_
  rintro e W1 ⟨rfl, h1⟩
  have y0 := ((Blk.new w 49 #[.string { data := #[] }, .string { data := #[] }, .string { data := #[] }, .int .i64 0]).alloc (.cells #[.string { data := #[] }, .string { data := #[] }, .string { data := #[] }, .int .i64 0] 49)).call h1
  have y1 := (blk_at (w := w.alloc (.cells #[.string { data := #[] }, .string { data := #[] }, .string { data := #[] }, .int .i64 0] 49)) (t := 49) (cs := #[.string { data := #[] }, .string { data := #[] }, .string { data := #[] }, .int .i64 0]) (n := w.heap.size + 1) (by simp)).call h1
  have a0 := y0.cell' (i := 0) rfl
  have a1 := y0.cell' (i := 1) rfl
  have a2 := y0.cell' (i := 2) rfl
  have a3 := y0.cell' (i := 3) rfl
  have b0 := y1.cell' (i := 0) rfl
  have b1 := y1.cell' (i := 1) rfl
  have b2 := y1.cell' (i := 2) rfl
  have b3 := y1.cell' (i := 3) rfl
  have f0 := y0.frozen 0
  have f1 := y0.frozen 1
  have f2 := y0.frozen 2
  have f3 := y0.frozen 3
  have g0 := y1.frozen 0
  have g1 := y1.frozen 1
  have g2 := y1.frozen 2
  have g3 := y1.frozen 3
  have l0 := y0.lt
  have l1 := y1.lt
  have HB := Lib.hid (gr_call HZ.out h1)
  clear y0 y1 h1
  obtain ⟨N, hN⟩ : ∃ N : Int, N = (partN (byS s) s.size : Int) := ⟨_, rfl⟩
  rw [← hN]
  have HN := Lib.hid hN
  clear hN
  go_wp2_with (fail)
  refine bodyPost_ret (v := .agg #[.string (pA s), .string (pB s), .string (pC s), .int .i64 N]) (by simp [results, Tryd.results28, go_sem, a0, a1, a2, a3, l0, l1]) rfl ⟨by rw [HN.out], ?_⟩
  exact gr_set (gr_set (gr_set (gr_set (gr_set (gr_set (gr_set (gr_set HB.out (by simp) _) (by simp) _) (by simp) _) (by simp) _) (by simp) _) (by simp) _) (by simp) _) (by simp) _

/-- Where a part begins, after the lengths of the two ahead. -/
def fromN (a b : Nat) : Nat → Nat
  | 0 => 0
  | 1 => a + 1
  | _ => a + 1 + (b + 1)

set_option maxRecDepth 100000 in
set_option maxHeartbeats 2000000 in
theorem bfrom (a b c : ByteArray) (N : Int) (i : Nat) (hi : i ≤ 2) (ha : a.size ≤ 1000000) (hb : b.size ≤ 1000000) (w : World) :
    Calls Tryd.prog 29 #[.agg #[.string a, .string b, .string c, .int .i64 N], .int .i64 (i : Int)] w fun e W' => e = .returned (.int .i64 (fromN a.size b.size i : Int)) ∧ Below w.heap.size w W' := by
  go_enter Tryd.func29, Tryd.ntmps29
  go_wp2_with (fail)
  go_loopw [5, 8] (fun x k wr => ∃ j : Nat, j ≤ i ∧ k = .int .i64 (j : Int) ∧ x = .int .i64 (fromN a.size b.size j : Int) ∧ Blk wr w.heap.size 49 #[.string a, .string b, .string c, .int .i64 N] ∧ Below w.heap.size w wr) (fun _ k _ => i - (intOf k).toNat)
  case atStart => exact ⟨0, Nat.zero_le _, rfl, rfl, Blk.new _ _ _, gr_alloc (Below.refl _ _) _⟩
  case round =>
    obtain ⟨j, hj, rfl, rfl, hblk, hbel⟩ := hrel
    have c0 := hblk.cell' (i := 0) rfl
    have c1 := hblk.cell' (i := 1) rfl
    have c2 := hblk.cell' (i := 2) rfl
    have c3 := hblk.cell' (i := 3) rfl
    have hl := hblk.lt
    have HB := Lib.hid (And.intro hblk hbel)
    clear hblk hbel
    by_cases hlt : j < i
    · have hj2 : j = 0 ∨ j = 1 := by omega
      rcases hj2 with rfl | rfl
      · unfold fromN
        go_wp2_with (fail)
        exact ⟨⟨1, by omega, rfl, by simp [fromN], HB.out⟩, by simp [intOf]; omega⟩
      · unfold fromN
        go_wp2_with (fail)
        exact ⟨⟨2, by omega, rfl, by simp [fromN], HB.out⟩, by simp [intOf]; omega⟩
    · obtain rfl : j = i := by omega
      go_wp2_with (fail)
      go_ret
      exact ⟨rfl, HB.out.2⟩
end Go.Proofs.YtllhcfgddcjfkaaDoor
