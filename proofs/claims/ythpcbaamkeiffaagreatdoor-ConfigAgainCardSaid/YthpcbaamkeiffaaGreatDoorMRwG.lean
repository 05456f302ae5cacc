/-
  row's reader of words, walked; condition: lines of at most 1000000000 bytes; the variable ErrSyntax holds an interface value.
-/
import Derived.BigRegion
import Derived.Test.YthpcbaamkeiffaaGreatDoorMRwF
namespace Go.Proofs.YthpcbaamkeiffaaGreatDoor
open Go.RowKit
set_option linter.unusedVariables false
set_option linter.unusedSimpArgs false

theorem lineL_blanks (l : List UInt8) : ∀ o, lineL o l = lineL (o + blN l) (l.drop (blN l)) := by
  induction l with
  | nil => intro o; rfl
  | cons c t ih =>
    intro o
    cases h : isBl c
    · rw [blN_head h]; rfl
    · have hb : blN (c :: t) = blN t + 1 := by conv => lhs; unfold blN
                                               rw [h, if_pos rfl]
      rw [lineL_blank h, ih (o + 1), hb]
      show _ = lineL (o + (blN t + 1)) (t.drop (blN t))
      congr 1; omega
theorem blN_drops (l : List UInt8) : blN (l.drop (blN l)) = 0 := by
  induction l with
  | nil => rfl
  | cons c t ih =>
    cases h : isBl c
    · rw [blN_head h]; exact blN_head h
    · have hb : blN (c :: t) = blN t + 1 := by conv => lhs; unfold blN
                                               rw [h, if_pos rfl]
      rw [hb]; exact ih

/-- A word's cells. -/
def wdC (d : Wd) : List Value := [.int .i64 (d.a : Int), .string d.t, .bool d.q]
def wdsC (ws : List Wd) : List Value := ws.flatMap wdC
theorem wdsC_snoc (ws : List Wd) (d : Wd) : wdsC (ws ++ [d]) = wdsC ws ++ wdC d := by simp [wdsC]
theorem wdsC_len (ws : List Wd) : (wdsC ws).length = ws.length * 3 := by
  induction ws with
  | nil => rfl
  | cons d t ih => unfold wdsC at *; rw [List.flatMap_cons, List.length_append, ih, List.length_cons]; simp [wdC]; omega
theorem infoWord : (Tryz.prog.info? 116).map (fun i => (i.zero, i.size, i.bytes)) = some (some (.agg #[.int .i64 0, .string ⟨#[]⟩, .bool false]), 3, 32) := by kernel_rfl
theorem gen_at {G : Exit → Act → World → Prop} {e : Exit} {a : Act} {W0 : World} {p : World → Prop} (h0 : p W0) (h : ∀ W, p W → G e a W) : G e a W0 := h W0 h0
theorem BelowX.grownBy {B b : Nat} {w w' : World} (h : BelowX w.heap.size b w w') : w.grownBy w' (some b) :=
  ⟨h.os, h.tape, h.output, h.size, fun k hk hne => h.block k hk (fun e => hne (by rw [e]))⟩
/-- How far words has come. -/
def WAt (s : ByteArray) (o : Nat) (xs : List Wd) (k : Nat) : Prop :=
  k ≤ s.size ∧ xs.length ≤ k ∧ blN (s.data.toList.drop k) = 0 ∧ lineL o s.data.toList = preW xs (lineL (o + k) (s.data.toList.drop k))
/-- The reader's cells. -/
def rdC (s : ByteArray) (o o' : Nat) (v : Value) : Array Value := #[.string s, .int .i64 0, .int .i64 (o : Int), .int .i64 (o' : Int), v]
/-- The reader, the words that it has laid, and all that stays. -/
def WSt (s : ByteArray) (o o' : Nat) (w : World) (b : Nat) (W : World) (xs : List Wd) (v : Value) (k : Nat) : Prop :=
  ScanAt W b 159 (rdC s o o' v) k ∧ W.ownsRow w.heap.size 116 3 v xs.length (wdsC xs) ∧ BelowX w.heap.size b w W
section
variable {s : ByteArray} {o o' : Nat} {w W W' : World} {b : Nat} {xs : List Wd} {v : Value} {k k' : Nat}
theorem WSt.drewN (h : WSt s o o' w b W xs v k) (n : Nat) : WSt s o o' w b (W.drewN n) xs v k := ⟨h.1, own_drewN h.2.1 n, h.2.2.drewN n⟩
theorem WSt.call (h : WSt s o o' w b W xs v k) (hb : Below W.heap.size W W') : WSt s o o' w b W' xs v k :=
  ⟨Blk.call h.1 hb, own_below h.2.1 hb (Nat.le_refl _), h.2.2.trans (BelowX.of_below (hb.mono h.2.2.size) b)⟩
theorem WSt.scan (h : WSt s o o' w b W xs v k) (hs : ScanAt W' b 159 (rdC s o o' v) k') (hg : W.grownBy W' (some b)) : WSt s o o' w b W' xs v k' :=
  ⟨hs, own_grown h.2.1 h.1 (by decide) hg, h.2.2.trans ⟨hg.os, hg.tape, hg.output, hg.size, fun i hi hb => hg.block i (Nat.lt_of_lt_of_le hi h.2.2.size) (fun e => hb (Option.some.inj e))⟩⟩
theorem WSt.facts (h : WSt s o o' w b W xs v k) : W.cell? ⟨b, 0, none⟩ = some (.string s) ∧ W.cell? ⟨b, 1, none⟩ = some (.int .i64 (k : Int)) ∧ W.cell? ⟨b, 2, none⟩ = some (.int .i64 (o : Int)) ∧
    W.cell? ⟨b, 3, none⟩ = some (.int .i64 (o' : Int)) ∧ W.cell? ⟨b, 4, none⟩ = some v ∧ W.frozen? ⟨b, 4, none⟩ = false ∧ b < W.heap.size :=
  have h0 : Blk W b 159 #[.string s, .int .i64 (k : Int), .int .i64 (o : Int), .int .i64 (o' : Int), v] := h.1
  ⟨h0.cell' rfl, h0.cell' rfl, h0.cell' rfl, h0.cell' rfl, h0.cell' rfl, h0.frozen 4, h0.lt⟩
theorem WSt.err (h : WSt s o o' w b W xs v k) (hv : ErrV w 7) (hb : 7 ≠ b) : ErrV W 7 := hv.belowX h.2.2 hv.lt hb
end

/-- .. with the word that is being read. -/
def WSt2 (s : ByteArray) (o o' : Nat) (w : World) (b : Nat) (W : World) (xs : List Wd) (v : Value) (k : Nat) (g : Nat) (d : Wd) : Prop :=
  WSt s o o' w b W xs v k ∧ Blk W g 116 #[.int .i64 (d.a : Int), .string d.t, .bool d.q] ∧ w.heap.size ≤ g ∧ g ≠ b ∧ some g ≠ v.ownBlock
section
variable {s : ByteArray} {o o' : Nat} {w W W' : World} {b g : Nat} {xs : List Wd} {v : Value} {k k' : Nat} {d : Wd}
theorem WSt2.new (h : WSt s o o' w b W xs v k) (d : Wd) : WSt2 s o o' w b (W.alloc (.cells #[.int .i64 (d.a : Int), .string d.t, .bool d.q] 116)).drew xs v k W.heap.size d := by
  have hb : Below W.heap.size W (W.alloc (.cells #[.int .i64 (d.a : Int), .string d.t, .bool d.q] 116)).drew := (gr_alloc (Below.refl _ _) _).drew
  refine ⟨h.call hb, Blk.new _ _ _, h.2.2.size, ?_, fun e => ?_⟩
  · have := h.facts.2.2.2.2.2.2; omega
  · have := (h.2.1.lt _ e.symm).2; omega
theorem WSt2.drewN (h : WSt2 s o o' w b W xs v k g d) (n : Nat) : WSt2 s o o' w b (W.drewN n) xs v k g d := ⟨h.1.drewN n, h.2.1, h.2.2⟩
theorem WSt2.scan (h : WSt2 s o o' w b W xs v k g d) (hs : ScanAt W' b 159 (rdC s o o' v) k') (hg : W.grownBy W' (some b)) : WSt2 s o o' w b W' xs v k' g d :=
  ⟨h.1.scan hs hg, h.2.1.grown hg (fun e => h.2.2.2.1 (Option.some.inj e)), h.2.2⟩
theorem WSt2.text (h : WSt2 s o o' w b W xs v k g d) (t : ByteArray) : WSt2 s o o' w b (W.setCell ⟨g, 1, none⟩ (.string t)) xs v k g ⟨d.a, t, d.q⟩ :=
  ⟨⟨Blk.far h.1.1 (p := ⟨g, 1, none⟩) (fun e => h.2.2.2.1 e.symm) _, h.1.2.1.kept (row := some g) ⟨rfl, rfl, rfl, by simp [World.setCell], fun k _ hk => Below.heap_setCell _ _ _ _ (fun e => hk (by simp [e]))⟩ (.inr (fun e => h.2.2.2.2 e.symm)), h.1.2.2.setCell (.inr h.2.2.1) _⟩, h.2.1.set_ 1 _, h.2.2⟩
theorem WSt2.word (h : WSt2 s o o' w b W xs v k g d) : W.cell? ⟨g, 0, none⟩ = some (.int .i64 (d.a : Int)) ∧ W.cell? ⟨g, 1, none⟩ = some (.string d.t) ∧ W.cell? ⟨g, 2, none⟩ = some (.bool d.q) ∧ W.frozen? ⟨g, 1, none⟩ = false ∧ g < W.heap.size :=
  ⟨h.2.1.cell' rfl, h.2.1.cell' rfl, h.2.1.cell' rfl, h.2.1.frozen 1, h.2.1.lt⟩
end
/-- What a word's reader says. -/
def RdA (s : ByteArray) (k : Nat) (t : ByteArray) (is : Bool) (k' : Nat) : Prop := (is = true ∧ ∃ r, readW (s.data.toList.drop k) = some r ∧ t = mkB r.1 ∧ k' = k + r.2) ∨ (is = false ∧ readW (s.data.toList.drop k) = none)
theorem mkB_ext (s : ByteArray) (k n : Nat) : s.extract k (k + n) = mkB ((s.data.toList.drop k).take n) := by
  apply str_ext
  rw [mkB_data, Lib.extract_data, show k + n - k = n by omega]
theorem wread_b (s : ByteArray) (b k : Nat) (T : TypeId) (cs : Array Value) (w : World) (hs : s.size ≤ 1000000000) (hk : k < s.size) (hq : s[k] ≠ 34) (g0 : cs[0]? = some (.string s)) (g1 : 1 < cs.size) (hb : ScanAt w b T cs k) :
    Calls Tryz.prog 118 #[.pointer (some ⟨b, 0, none⟩)] w fun e w' => ∃ t is k', e = .returned (.tuple #[.string t, .bool is]) ∧ RdA s k t is k' ∧ ScanAt w' b T cs k' ∧ w.grownBy w' (some b) := by
  refine (wbare s b k T cs w hs (Nat.le_of_lt hk) g0 g1 hb).mono ?_
  rintro e w' ⟨rfl, h1, h2⟩
  refine ⟨_, _, _, rfl, ?_, h1, h2⟩
  have hd := drop_at s k hk
  have hr : readW (s.data.toList.drop k) = readB (s.data.toList.drop k) := by
    rw [hd]
    show (if s[k] = 34 then _ else _) = _
    rw [if_neg hq]
  unfold RdA
  rw [hr]
  unfold readB
  rw [List.drop_drop]
  by_cases h : 0 < barN (s.data.toList.drop k) ∧ endL (s.data.toList.drop (k + barN (s.data.toList.drop k))) = true
  · rw [if_pos h]
    exact .inl ⟨by rw [decide_eq_true h.1, h.2]; rfl, _, rfl, mkB_ext s k _, rfl⟩
  · rw [if_neg h]
    refine .inr ⟨?_, rfl⟩
    by_cases h1 : 0 < barN (s.data.toList.drop k)
    · cases h2 : endL (s.data.toList.drop (k + barN (s.data.toList.drop k)))
      · simp
      · exact absurd ⟨h1, h2⟩ h
    · rw [decide_eq_false h1]; rfl
theorem wread_q (s : ByteArray) (b k : Nat) (T : TypeId) (cs : Array Value) (w : World) (hs : s.size ≤ 1000000000) (hk : k < s.size) (hq : s[k] = 34) (g0 : cs[0]? = some (.string s)) (g1 : 1 < cs.size) (hT : 5 ≠ T) (hv : ErrV w 7) (hb0 : 7 ≠ b) (hb : ScanAt w b T cs k) :
    Calls Tryz.prog 122 #[.pointer (some ⟨b, 0, none⟩)] w fun e w' => ∃ t is k', e = .returned (.tuple #[.string t, .bool is]) ∧ RdA s k t is k' ∧ ScanAt w' b T cs k' ∧ w.grownBy w' (some b) := by
  refine (wquoted s b k T cs w hs hk g0 g1 hT hv hb0 hb).mono ?_
  rintro e w' ⟨h1, h2⟩
  have hd := drop_at s k hk
  have hr : readW (s.data.toList.drop k) = readQ (s.data.toList.drop (k + 1)) := by
    rw [hd, hq]; rfl
  unfold RdA
  rw [hr]
  unfold readQ
  cases e1 : quo (s.data.toList.drop (k + 1)) with
  | none =>
    rw [e1] at h1
    obtain ⟨rfl, k', h3⟩ := h1
    exact ⟨_, _, k', rfl, .inr ⟨rfl, rfl⟩, h3, BelowX.grownBy (B := 0) h2⟩
  | some r =>
    rw [e1] at h1
    obtain ⟨rfl, h3⟩ := h1
    refine ⟨_, _, _, rfl, ?_, h3, BelowX.grownBy (B := 0) h2⟩
    show (_ ∧ ∃ r', (if endL ((s.data.toList.drop (k + 1)).drop r.2) = true then some (r.1, r.2 + 1) else none) = some r' ∧ _) ∨ (_ ∧ (if endL ((s.data.toList.drop (k + 1)).drop r.2) = true then some (r.1, r.2 + 1) else none) = none)
    rw [List.drop_drop]
    cases h : endL (s.data.toList.drop (k + 1 + r.2))
    · exact .inr ⟨rfl, by rw [if_neg (by decide)]⟩
    · exact .inl ⟨rfl, (r.1, r.2 + 1), by rw [if_pos rfl], rfl, by show k + 1 + r.2 = k + (r.2 + 1); omega⟩
theorem WAt.no {s : ByteArray} {o k : Nat} {xs : List Wd} (h : WAt s o xs k) {x : UInt8} {t : List UInt8} (hd : s.data.toList.drop k = x :: t) (hb : isBl x = false) (h35 : x ≠ 35) (hr : readW (s.data.toList.drop k) = none) : lineL o s.data.toList = (none, o + k) := by
  rw [h.2.2.2, hd, lineL_at hb h35, ← hd, hr]; rfl
theorem WAt.step {s : ByteArray} {o k : Nat} {xs : List Wd} (h : WAt s o xs k) {x : UInt8} {t : List UInt8} {r : List UInt8 × Nat} (hd : s.data.toList.drop k = x :: t) (hb : isBl x = false) (h35 : x ≠ 35) (hr : readW (s.data.toList.drop k) = some r) :
    k + r.2 ≤ s.size ∧ WAt s o (xs ++ [⟨((o + k : Nat) : Int), mkB r.1, decide (x = 34)⟩]) (k + r.2 + blN (s.data.toList.drop (k + r.2))) := by
  have hle := readW_le _ r hr
  rw [List.length_drop, size_data] at hle
  have hk := h.1
  have hl := h.2.1
  have hb2 := blN_le (s.data.toList.drop (k + r.2))
  rw [List.length_drop, size_data] at hb2
  refine ⟨by omega, by omega, by simp; omega, by rw [← List.drop_drop]; exact blN_drops _, ?_⟩
  rw [h.2.2.2, hd, lineL_at hb h35, ← hd, hr, preW_snoc]
  congr 1
  rw [List.drop_drop, lineL_blanks (s.data.toList.drop (k + r.2)), List.drop_drop]
  congr 1; omega
theorem WAt.done {s : ByteArray} {o k : Nat} {xs : List Wd} (h : WAt s o xs k) (hd : s.data.toList.drop k = [] ∨ (s.data.toList.drop k).head? = some 35) : lineL o s.data.toList = (some xs, 0) := by
  rw [h.2.2.2, lineL_done]
  · show (some (xs ++ []), 0) = _
    rw [List.append_nil]
  · rw [h.2.2.1]; exact hd

/-- What words hands back. -/
def WordsP (s : ByteArray) (o o' : Nat) (w : World) (b : Nat) (r : Option (List Wd) × Nat) (e : Ending) (w' : World) : Prop := match r with
  | (some ws, _) => e = .returned (.int .i64 (-1)) ∧ ∃ v k, WSt s o o' w b w' ws v k
  | (none, x) => e = .returned (.int .i64 (x : Int)) ∧ BelowX w.heap.size b w w'

attribute [-go_sem] Builtin.append_
theorem WSt2.append {s : ByteArray} {o o' : Nat} {w W : World} {b g : Nat} {xs : List Wd} {v : Value} {k : Nat} {d : Wd} (h : WSt2 s o o' w b W xs v k g d) (hn : xs.length ≤ 1000000000) : ∃ v' X2,
    (Builtin.append_ #[75, 75] 75 #[v, .slice (some ⟨W.heap.size, 0, none⟩) 1 1]).run Tryz.prog (W.alloc (.cells #[.int .i64 (d.a : Int), .string d.t, .bool d.q] 116)).drew = .ok v' X2 ∧
    ScanAt X2 b 159 (rdC s o o' v) k ∧ X2.ownsRow w.heap.size 116 3 v' (xs ++ [d]).length (wdsC (xs ++ [d])) ∧ BelowX w.heap.size b w X2 := by
  obtain ⟨i1, hi1, hz10, hz11, hz12⟩ := info_parts infoWord
  have hb : Below W.heap.size W (W.alloc (.cells #[.int .i64 (d.a : Int), .string d.t, .bool d.q] 116)).drew := (gr_alloc (Below.refl _ _) _).drew
  have h2 := h.1.call hb
  have hn1 : ∀ j u, (wdC d)[j]? = some u → (W.alloc (.cells #[.int .i64 (d.a : Int), .string d.t, .bool d.q] 116)).drew.cell? ((⟨W.heap.size, 0, none⟩ : Addr).add j) = some u := by
    intro j u hj
    have hB : Blk (W.alloc (.cells #[.int .i64 (d.a : Int), .string d.t, .bool d.q] 116)).drew W.heap.size 116 #[.int .i64 (d.a : Int), .string d.t, .bool d.q] := Blk.new _ _ _
    have : ((⟨W.heap.size, 0, none⟩ : Addr).add j) = ⟨W.heap.size, j, none⟩ := by rw [Addr.add_lit, Nat.zero_add]
    rw [this]
    exact hB.cell' (by simpa [wdC] using hj)
  have hn2 : ∀ u ∈ wdC d, u.oneCell' = true := by
    intro u hu
    simp [wdC] at hu
    rcases hu with rfl | rfl | rfl <;> rfl
  obtain ⟨v', X2, hr, hown, hgr, _⟩ := run_append_own (P := Tryz.prog) _ w.heap.size 75 75 116 i1 _ 3 32 Tryz.underlying75 hi1 hz10 hz11 hz12 rfl (by decide) v xs.length (wdsC xs) h2.2.1
    ⟨W.heap.size, 0, none⟩ 1 1 (wdC d) rfl hn1 hn2 (by unfold maxLen; omega) (by omega) h2.2.2.size
  refine ⟨v', X2, hr, ?_, by rw [List.length_append, wdsC_snoc]; exact hown, ?_⟩
  · exact Blk.grown h2.1 hgr (own_blk_ne h2.2.1 h2.1 (by decide))
  · exact h2.2.2.grown hgr h2.2.2.size (fun k hk => (h2.2.1.lt k hk).1)

set_option maxRecDepth 100000 in
set_option maxHeartbeats 8000000 in
theorem wwords (s : ByteArray) (o o' b : Nat) (w : World) (hs : s.size ≤ 100000000) (ho : o ≤ 100000000) (hv : ErrV w 7) (hb0 : 7 ≠ b)
    (hb : ScanAt w b 159 (rdC s o o' (.slice none 0 0)) 0) :
    Calls Tryz.prog 98 #[.pointer (some ⟨b, 0, none⟩)] w (WordsP s o o' w b (lineL o s.data.toList)) := by
  have h0 : WSt s o o' w b w [] (.slice none 0 0) 0 := ⟨hb, World.ownsRow_nil _ _ _ _, BelowX.refl _ _ _⟩
  have hbl := wblanks s b 0 _ _ w (by omega) (Nat.zero_le _) (show (rdC s o o' (.slice none 0 0))[0]? = some (.string s) from rfl) (show 1 < (rdC s o o' (.slice none 0 0)).size by simp [rdC]) hb
  have hbb := blN_le s.data.toList
  rw [size_data] at hbb
  rw [List.drop_zero, Nat.zero_add] at hbl
  have HB := Lib.hid (And.intro h0 hv)
  clear hv hb
  go_enter Tryz.func98, Tryz.ntmps98
  go_wp2_with (fail)
  refine hbl.mono ?_
  rintro e W ⟨rfl, hsc, hgr⟩
  have h1 := h0.scan hsc hgr
  clear hsc hgr h0 hbl
  go_wp2_with (fail)
  go_loopg [] (s.size - blN s.data.toList) (fun n wr => ∃ (xs : List Wd) (k : Nat) (v : Value), n = s.size - k ∧ WAt s o xs k ∧ WSt s o o' w b wr xs v k)
  case atStart => exact ⟨[], blN s.data.toList, _, rfl, ⟨hbb, Nat.zero_le _, blN_drops _, by rw [preW_nil, ← lineL_blanks]⟩, h1⟩
  case round =>
    clear h1
    obtain ⟨xs, k, v, hn, hat, hst⟩ := hrel
    obtain ⟨va, vc, rfl⟩ := own_slice hst.2.1
    obtain ⟨d0, d1, d2, d3, d4, d5, d6⟩ := hst.facts
    have hki0 : (0 : Int) ≤ k := by omega
    have hks : k ≤ s.size := hat.1
    have hxl : xs.length ≤ 1000000000 := by have := hat.1; have := hat.2.1; omega
    have hWz := hst.2.2.size
    have A := Lib.hid (And.intro hn (And.intro hat hst))
    clear hn hat hst
    by_cases hlt : k < s.size
    · have hii : (k : Int) < s.size := by omega
      obtain ⟨x, hx⟩ : ∃ x, x = s[k] := ⟨_, rfl⟩
      have hxs : s[k] = x := hx.symm
      have hxb := u8_bound x
      have hdr := drop_at s k hlt
      rw [hxs] at hdr
      have hnb : isBl x = false := by
        have := A.out.2.1.2.2.1
        rw [hdr] at this
        cases h : isBl x
        · rfl
        · unfold blN at this; rw [h, if_pos rfl] at this; omega
      have X := Lib.hid (And.intro hdr hnb)
      clear hx hdr hnb
      by_cases h35 : x = 35
      · subst h35
        have H := Lib.hid (A.out.2.1.done (.inr (by rw [X.out.1]; rfl)))
        go_wp2_with (fail)
        go_quiet (fail)
        go_wp2_with (fail)
        go_ret
        rw [H.out]
        exact ⟨rfl, _, _, A.out.2.2.drewN _⟩
      · have hne : ((x.toNat : Int) != 35) = true := by have := u8_ne (n := 35) (by decide) h35; simp; omega
        have N := Lib.hid h35
        clear h35
        go_wp2_with (fail)
        go_quiet (fail)
        go_wp2_with (fail)
        refine wp_gen (p := fun W => WSt s o o' w b W xs (.slice va xs.length vc) k) (A.out.2.2.drewN _) ?_
        clear d0 d1 d2 d3 d4 d5 d6 hWz
        intro W1 S1
        obtain ⟨d0, d1, d2, d3, d4, d5, d6⟩ := S1.facts
        have hWz := S1.2.2.size
        have S := Lib.hid S1
        clear S1
        have hsum0 : (0 : Int) ≤ (o : Int) + k := by omega
        have hsum1 : (o : Int) + k ≤ 200000000 := by omega
        by_cases h34 : x = 34
        · subst h34
          go_region
          refine gen_at (p := fun W => WSt2 s o o' w b W xs (.slice va xs.length vc) k W1.heap.size ⟨((o + k : Nat) : Int), ⟨#[]⟩, true⟩) (WSt2.new S.out ⟨((o + k : Nat) : Int), ⟨#[]⟩, true⟩) ?_
          obtain ⟨g, hg⟩ : ∃ g, g = W1.heap.size := ⟨_, rfl⟩
          have HGS := Lib.hid hg
          rw [← hg]
          clear hg d0 d1 d2 d3 d4 d5 d6 hWz
          intro W2 S2
          obtain ⟨d0, d1, d2, d3, d4, d5, d6⟩ := S2.1.facts
          obtain ⟨e0, e1, e2, e3, e4⟩ := S2.word
          have hrd := wread_q s b k _ _ W2 (by omega) hlt hxs (show (rdC s o o' (.slice va xs.length vc))[0]? = some (.string s) from rfl) (show 1 < (rdC s o o' (.slice va xs.length vc)).size by simp [rdC]) (by decide) (S2.1.err HB.out.2 hb0) hb0 S2.1.1
          have T2 := Lib.hid S2
          clear S2
          go_wp2_with (fail)
          refine hrd.mono ?_
          rintro e W3 ⟨t, is, k', rfl, hra, hsc, hgr⟩
          have S3 := T2.out.scan hsc hgr
          clear hrd hsc hgr d0 d1 d2 d3 d4 d5 d6 e0 e1 e2 e3 e4
          obtain ⟨d0, d1, d2, d3, d4, d5, d6⟩ := S3.1.facts
          obtain ⟨e0, e1, e2, e3, e4⟩ := S3.word
          have T3 := Lib.hid S3
          clear S3
          rcases hra with ⟨rfl, r, hr, rfl, rfl⟩ | ⟨rfl, hr⟩
          · have H := Lib.hid (A.out.2.1.step X.out.1 X.out.2 (by decide) hr)
            have HR := Lib.hid hr
            clear hr
            go_wp2_with (fail)
            refine wp_gen (p := fun W => WSt2 s o o' w b W xs (.slice va xs.length vc) (k + r.2) g ⟨((o + k : Nat) : Int), mkB r.1, true⟩) (T3.out.text _) ?_
            clear d0 d1 d2 d3 d4 d5 d6 e0 e1 e2 e3 e4
            intro W4 S4
            obtain ⟨d0, d1, d2, d3, d4, d5, d6⟩ := S4.1.facts
            obtain ⟨e0, e1, e2, e3, e4⟩ := S4.word
            have hWz4 := S4.1.2.2.size
            obtain ⟨v2, X2, hrun, x1, x2, x3⟩ := S4.append hxl
            obtain ⟨va2, vc2, rfl⟩ := own_slice x2
            have hrun : (Builtin.append_ #[75, 75] 75 #[.slice va xs.length vc, .slice (some ⟨W4.heap.size, 0, none⟩) 1 1]).run Tryz.prog (W4.alloc (.cells #[.int .i64 ((o : Int) + (k : Int)), .string (mkB r.1), .bool true] 116)).drew = .ok _ X2 := hrun
            have f0 : Blk X2 b 159 #[.string s, .int .i64 ((k + r.2 : Nat) : Int), .int .i64 (o : Int), .int .i64 (o' : Int), .slice va xs.length vc] := x1
            have f1 := f0.cell' (i := 4) rfl
            have f2 := f0.frozen 4
            have f3 := f0.lt
            have T4 := Lib.hid (And.intro x1 (And.intro x2 x3))
            clear S4 x1 x2 x3 f0
            go_region
            refine gen_at (p := fun W => WSt s o o' w b W (xs ++ [⟨((o + k : Nat) : Int), mkB r.1, true⟩]) (.slice va2 (xs.length + 1) vc2) (k + r.2)) ?_ ?_
            · obtain ⟨x1, x2, x3⟩ := T4.out
              have x2' : X2.ownsRow w.heap.size 116 3 (.slice va2 (xs.length + 1) vc2) (xs ++ [(⟨((o + k : Nat) : Int), mkB r.1, true⟩ : Wd)]).length (wdsC (xs ++ [⟨((o + k : Nat) : Int), mkB r.1, true⟩])) := by
                rw [show xs.length + 1 = (xs ++ [(⟨((o + k : Nat) : Int), mkB r.1, true⟩ : Wd)]).length by simp]
                exact x2
              exact ⟨Blk.set_ x1 4 _, own_setCell x2' x1 (by decide) _, x3.setCell (.inl rfl) _⟩
            clear d0 d1 d2 d3 d4 d5 d6 e0 e1 e2 e3 e4 hrun f1 f2 f3 T4
            intro W5 S5
            have hbl := wblanks s b (k + r.2) _ _ W5 (by omega) H.out.1 (show (rdC s o o' (.slice va2 (xs.length + 1) vc2))[0]? = some (.string s) from rfl) (show 1 < (rdC s o o' (.slice va2 (xs.length + 1) vc2)).size by simp [rdC]) S5.1
            go_wp2_with (fail)
            refine hbl.mono ?_
            rintro e W6 ⟨rfl, hsc, hgr⟩
            have S6 := Lib.hid (S5.scan hsc hgr)
            have hb2 := blN_le (s.data.toList.drop (k + r.2))
            rw [List.length_drop, size_data] at hb2
            have hr1 := H.out.2.2.1
            rw [List.length_append, List.length_singleton] at hr1
            clear hsc hgr hbl S5
            go_wp2_with (fail)
            go_roundg (s.size - (k + r.2 + blN (s.data.toList.drop (k + r.2))))
            case measure => have := A.out.1; have := readW_le _ r HR.out; omega
            case rel => exact ⟨_, _, _, rfl, H.out.2, S6.out⟩
          · have H := Lib.hid (A.out.2.1.no X.out.1 X.out.2 (by decide) hr)
            clear hr
            go_wp2_with (fail)
            go_ret
            rw [H.out]
            exact ⟨rfl, T3.out.1.2.2⟩
        · have hd34 : ((x.toNat : Int) == 34) = false := beq_eq_false_iff_ne.2 (by have := u8_ne (n := 34) (by decide) h34; omega)
          have hq34 : s[k] ≠ 34 := by rw [hxs]; exact h34
          have HQ := Lib.hid (And.intro h34 hq34)
          clear h34 hq34
          go_region
          refine gen_at (p := fun W => WSt2 s o o' w b W xs (.slice va xs.length vc) k W1.heap.size ⟨((o + k : Nat) : Int), ⟨#[]⟩, false⟩) (WSt2.new S.out ⟨((o + k : Nat) : Int), ⟨#[]⟩, false⟩) ?_
          obtain ⟨g, hg⟩ : ∃ g, g = W1.heap.size := ⟨_, rfl⟩
          have HGS := Lib.hid hg
          rw [← hg]
          clear hg d0 d1 d2 d3 d4 d5 d6 hWz
          intro W2 S2
          obtain ⟨d0, d1, d2, d3, d4, d5, d6⟩ := S2.1.facts
          obtain ⟨e0, e1, e2, e3, e4⟩ := S2.word
          have hrd := wread_b s b k _ _ W2 (by omega) hlt HQ.out.2 (show (rdC s o o' (.slice va xs.length vc))[0]? = some (.string s) from rfl) (show 1 < (rdC s o o' (.slice va xs.length vc)).size by simp [rdC]) S2.1.1
          have T2 := Lib.hid S2
          clear S2
          go_wp2_with (fail)
          refine hrd.mono ?_
          rintro e W3 ⟨t, is, k', rfl, hra, hsc, hgr⟩
          have S3 := T2.out.scan hsc hgr
          clear hrd hsc hgr d0 d1 d2 d3 d4 d5 d6 e0 e1 e2 e3 e4
          obtain ⟨d0, d1, d2, d3, d4, d5, d6⟩ := S3.1.facts
          obtain ⟨e0, e1, e2, e3, e4⟩ := S3.word
          have T3 := Lib.hid S3
          clear S3
          rcases hra with ⟨rfl, r, hr, rfl, rfl⟩ | ⟨rfl, hr⟩
          · have H := Lib.hid ((by have k1 := A.out.2.1.step X.out.1 X.out.2 N.out hr; rw [decide_eq_false HQ.out.1] at k1; exact k1 : k + r.2 ≤ s.size ∧ WAt s o (xs ++ [⟨((o + k : Nat) : Int), mkB r.1, false⟩]) (k + r.2 + blN (s.data.toList.drop (k + r.2)))))
            have HR := Lib.hid hr
            clear hr
            go_wp2_with (fail)
            refine wp_gen (p := fun W => WSt2 s o o' w b W xs (.slice va xs.length vc) (k + r.2) g ⟨((o + k : Nat) : Int), mkB r.1, false⟩) (T3.out.text _) ?_
            clear d0 d1 d2 d3 d4 d5 d6 e0 e1 e2 e3 e4
            intro W4 S4
            obtain ⟨d0, d1, d2, d3, d4, d5, d6⟩ := S4.1.facts
            obtain ⟨e0, e1, e2, e3, e4⟩ := S4.word
            have hWz4 := S4.1.2.2.size
            obtain ⟨v2, X2, hrun, x1, x2, x3⟩ := S4.append hxl
            obtain ⟨va2, vc2, rfl⟩ := own_slice x2
            have hrun : (Builtin.append_ #[75, 75] 75 #[.slice va xs.length vc, .slice (some ⟨W4.heap.size, 0, none⟩) 1 1]).run Tryz.prog (W4.alloc (.cells #[.int .i64 ((o : Int) + (k : Int)), .string (mkB r.1), .bool false] 116)).drew = .ok _ X2 := hrun
            have f0 : Blk X2 b 159 #[.string s, .int .i64 ((k + r.2 : Nat) : Int), .int .i64 (o : Int), .int .i64 (o' : Int), .slice va xs.length vc] := x1
            have f1 := f0.cell' (i := 4) rfl
            have f2 := f0.frozen 4
            have f3 := f0.lt
            have T4 := Lib.hid (And.intro x1 (And.intro x2 x3))
            clear S4 x1 x2 x3 f0
            go_region
            refine gen_at (p := fun W => WSt s o o' w b W (xs ++ [⟨((o + k : Nat) : Int), mkB r.1, false⟩]) (.slice va2 (xs.length + 1) vc2) (k + r.2)) ?_ ?_
            · obtain ⟨x1, x2, x3⟩ := T4.out
              have x2' : X2.ownsRow w.heap.size 116 3 (.slice va2 (xs.length + 1) vc2) (xs ++ [(⟨((o + k : Nat) : Int), mkB r.1, false⟩ : Wd)]).length (wdsC (xs ++ [⟨((o + k : Nat) : Int), mkB r.1, false⟩])) := by
                rw [show xs.length + 1 = (xs ++ [(⟨((o + k : Nat) : Int), mkB r.1, false⟩ : Wd)]).length by simp]
                exact x2
              exact ⟨Blk.set_ x1 4 _, own_setCell x2' x1 (by decide) _, x3.setCell (.inl rfl) _⟩
            clear d0 d1 d2 d3 d4 d5 d6 e0 e1 e2 e3 e4 hrun f1 f2 f3 T4
            intro W5 S5
            have hbl := wblanks s b (k + r.2) _ _ W5 (by omega) H.out.1 (show (rdC s o o' (.slice va2 (xs.length + 1) vc2))[0]? = some (.string s) from rfl) (show 1 < (rdC s o o' (.slice va2 (xs.length + 1) vc2)).size by simp [rdC]) S5.1
            go_wp2_with (fail)
            refine hbl.mono ?_
            rintro e W6 ⟨rfl, hsc, hgr⟩
            have S6 := Lib.hid (S5.scan hsc hgr)
            have hb2 := blN_le (s.data.toList.drop (k + r.2))
            rw [List.length_drop, size_data] at hb2
            have hr1 := H.out.2.2.1
            rw [List.length_append, List.length_singleton] at hr1
            clear hsc hgr hbl S5
            go_wp2_with (fail)
            go_roundg (s.size - (k + r.2 + blN (s.data.toList.drop (k + r.2))))
            case measure => have := A.out.1; have := readW_le _ r HR.out; omega
            case rel => exact ⟨_, _, _, rfl, H.out.2, S6.out⟩
          · have H := Lib.hid (A.out.2.1.no X.out.1 X.out.2 N.out hr)
            clear hr
            go_wp2_with (fail)
            go_ret
            rw [H.out]
            exact ⟨rfl, T3.out.1.2.2⟩
    · have hke : k = s.size := by omega
      have H := Lib.hid (A.out.2.1.done (.inl (drop_end s k (by omega))))
      clear hks
      go_wp2_with (fail)
      go_quiet (fail)
      go_wp2_with (fail)
      go_ret
      rw [H.out]
      exact ⟨rfl, _, _, A.out.2.2.drewN _⟩
end Go.Proofs.YthpcbaamkeiffaaGreatDoor
