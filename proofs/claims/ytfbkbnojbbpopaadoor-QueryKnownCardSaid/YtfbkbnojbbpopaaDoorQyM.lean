/-
  query's Get, walked; conditions: strings of at most 1000000 bytes, a variable of the library is an int.
-/
import Derived.Test.YtfbkbnojbbpopaaDoorQyL
namespace Go.Proofs.YtfbkbnojbbpopaaDoor
open Go.RowKit
set_option linter.unusedVariables false
set_option linter.unusedSimpArgs false

/-! A list of pairs that is only read. -/
def prAt (l : List Pr) : Nat → Nat → Value := fun i j => match l[i]? with
  | some p => ((pairV p)[j]?).getD (.bool false)
  | none => .bool false
theorem prAt_of {l : List Pr} {k : Nat} {p : Pr} (hp : l[k]? = some p) : prAt l k 0 = .string p.n ∧ prAt l k 1 = .string p.v ∧ prAt l k 2 = .bool p.b := by
  unfold prAt
  rw [hp]
  exact ⟨rfl, rfl, rfl⟩
theorem flatP_flatC (l : List Pr) : flatP l = flatC (prAt l) 3 l.length := by
  apply List.ext_getElem?
  intro i
  by_cases h : i < l.length * 3
  · rw [flatC_at _ _ _ _ h, flatP_at]
    obtain ⟨p, hp⟩ : ∃ p, l[i / 3]? = some p := ⟨_, List.getElem?_eq_getElem (by omega)⟩
    have hm : i % 3 = 0 ∨ i % 3 = 1 ∨ i % 3 = 2 := by omega
    obtain ⟨e0, e1, e2⟩ := prAt_of hp
    rw [hp]
    rcases hm with hm | hm | hm <;> rw [hm]
    · rw [e0]; rfl
    · rw [e1]; rfl
    · rw [e2]; rfl
  · rw [List.getElem?_eq_none (by rw [flatP_len]; omega), List.getElem?_eq_none (by rw [flatC_len]; omega)]
theorem own_cellsP {W : World} {B : Nat} {v : Value} {l : List Pr} (h : OwnP W B v l) : ∃ A c, v = .slice A l.length c ∧ Cells W A 3 l.length (prAt l) ∧ ArgOk A l.length c := by
  unfold OwnP at h
  rw [flatP_flatC] at h
  exact row_cells (by decide) h
theorem cells_pair {w : World} {A : Option Addr} {l : List Pr} (h : Cells w A 3 l.length (prAt l)) {k : Nat} {p : Pr} (hp : l[k]? = some p) :
    ∃ ab ao, A = some ⟨ab, ao, none⟩ ∧ ab < w.heap.size ∧ w.cell? ⟨ab, ao + k * 3, none⟩ = some (.string p.n) ∧ w.cell? ⟨ab, ao + k * 3 + 1, none⟩ = some (.string p.v) ∧ w.cell? ⟨ab, ao + k * 3 + 2, none⟩ = some (.bool p.b) := by
  have hk := (List.getElem?_eq_some_iff.1 hp).1
  obtain ⟨ab, ao, rfl, hlt, hc⟩ := h (by omega)
  obtain ⟨e0, e1, e2⟩ := prAt_of hp
  have c0 := hc k 0 hk (by decide)
  have c1 := hc k 1 hk (by decide)
  have c2 := hc k 2 hk (by decide)
  rw [e0] at c0
  rw [e1] at c1
  rw [e2] at c2
  exact ⟨ab, ao, rfl, hlt, c0, c1, c2⟩

theorem findP_step {x : ByteArray} {l : List Pr} {k : Nat} {p : Pr} (hp : l[k]? = some p) : findP x (l.drop k) = if p.n = x then some p.v else findP x (l.drop (k + 1)) := by
  have hk := (List.getElem?_eq_some_iff.1 hp).1
  rw [List.drop_eq_getElem_cons hk]
  conv => lhs; unfold findP
  rw [(List.getElem?_eq_some_iff.1 hp).2]

set_option maxRecDepth 100000 in
set_option maxHeartbeats 1000000 in
theorem qget1 (p : Pr) (x : ByteArray) (bn : Nat) (w : World) (hb : w.cell? ⟨bn, 0, none⟩ = some (.string x)) (hlt : bn < w.heap.size) :
    Calls Tryd.prog 50 #[.agg #[.string p.n, .string p.v, .bool p.b], .pointer (some ⟨bn, 0, none⟩)] w fun e w' => e = .returned (.bool (decide (p.n = x))) ∧ Below w.heap.size w w' := by
  have e := str_beq p.n x
  have K := Lib.hid (And.intro e (gr_alloc (Below.refl w.heap.size w) (.cells #[.string p.n, .string p.v, .bool p.b] 44)))
  clear e
  go_enter Tryd.func50, Tryd.ntmps50
  go_wp2_with (fail)
  go_ret
  exact ⟨ret_bool K.out.1, K.out.2⟩

def IdxPost (w : World) (l : List Pr) (x : ByteArray) (e : Ending) (W' : World) : Prop :=
  ((e = .returned (.int .i64 (-1)) ∧ findP x l = none) ∨ ∃ k p, l[k]? = some p ∧ findP x l = some p.v ∧ e = .returned (.int .i64 ((k : Nat) : Int))) ∧ Below w.heap.size w W'
set_option maxRecDepth 100000 in
set_option maxHeartbeats 2000000 in
theorem qindex (l : List Pr) (hl : l.length ≤ 1000001) (A : Option Addr) (c : Nat) (x : ByteArray) (bn : Nat) (w : World) (hA : Cells w A 3 l.length (prAt l)) (hb : w.cell? ⟨bn, 0, none⟩ = some (.string x)) (hlt : bn < w.heap.size) :
    Calls Tryd.prog 68 #[.slice A l.length c, .func (.func 50) #[] #[.pointer (some ⟨bn, 0, none⟩)]] w (IdxPost w l x) := by
  obtain ⟨n, hn⟩ : ∃ n, n = l.length := ⟨_, rfl⟩
  have HA := Lib.hid (And.intro hA (And.intro hb hn))
  rw [← hn] at hl ⊢
  clear hA hb hn
  go_enter Tryd.func68, Tryd.ntmps68
  go_wp2_with (fail)
  go_loopw [8] (fun iv wr => ∃ k : Nat, k ≤ n ∧ iv = .int .i64 (k : Int) ∧ findP x l = findP x (l.drop k) ∧ Below w.heap.size w wr) (fun iv _ => n - (intOf iv).toNat)
  case atStart => exact ⟨0, Nat.zero_le _, rfl, rfl, Below.refl _ _⟩
  case round =>
    obtain ⟨k, hk, rfl, hf, hbel⟩ := hrel
    by_cases hlt' : k < n
    · obtain ⟨p, hp⟩ : ∃ p, l[k]? = some p := ⟨_, List.getElem?_eq_getElem (by rw [← HA.out.2.2]; exact hlt')⟩
      obtain ⟨ab, ao, rfl, hab, c0, c1, c2⟩ := cells_pair (HA.out.1.below hbel) hp
      have cb : wr.cell? ⟨bn, 0, none⟩ = some (.string x) := by rw [hbel.cell (p := ⟨bn, 0, none⟩) hlt]; exact HA.out.2.1
      have hbz := hbel.size
      have hst := findP_step (x := x) hp
      have B := Lib.hid (And.intro hf (And.intro hbel (And.intro hp hst)))
      clear hf hbel hp hst
      go_wp2_with (fail)
      refine (qget1 p x bn _ cb (by omega)).mono ?_
      rintro e W1 ⟨rfl, h1⟩
      by_cases hx : p.n = x
      · rw [decide_eq_true hx]
        have HX := Lib.hid hx
        have H1 := Lib.hid h1
        clear hx h1
        go_wp2_with (fail)
        go_ret
        refine ⟨.inr ⟨k, p, B.out.2.2.1, ?_, rfl⟩, gr_call B.out.2.1 H1.out⟩
        rw [B.out.1, B.out.2.2.2, if_pos HX.out]
      · rw [decide_eq_false hx]
        have HX := Lib.hid hx
        have H1 := Lib.hid h1
        clear hx h1
        go_wp2_with (fail)
        go_roundw
        case rel => exact ⟨k + 1, by omega, rfl, by rw [B.out.1, B.out.2.2.2, if_neg HX.out], gr_call B.out.2.1 H1.out⟩
        case measure => simp [intOf]; omega
    · have B := Lib.hid (And.intro hf hbel)
      clear hf hbel
      go_wp2_with (fail)
      go_ret
      refine ⟨.inl ⟨rfl, ?_⟩, B.out.2⟩
      rw [B.out.1, List.drop_of_length_le (by rw [← HA.out.2.2]; omega)]
      rfl

def FindPost (w : World) (l : List Pr) (x : ByteArray) (e : Ending) (W' : World) : Prop :=
  ((e = .returned (.tuple #[.agg #[.string ⟨#[]⟩, .string ⟨#[]⟩, .bool false], .bool false]) ∧ findP x l = none) ∨ ∃ p : Pr, findP x l = some p.v ∧ e = .returned (.tuple #[.agg #[.string p.n, .string p.v, .bool p.b], .bool true])) ∧ Below w.heap.size w W'
set_option maxRecDepth 100000 in
set_option maxHeartbeats 2000000 in
theorem qfind (l : List Pr) (hl : l.length ≤ 1000001) (A : Option Addr) (c : Nat) (x : ByteArray) (bn : Nat) (w : World) (hA : Cells w A 3 l.length (prAt l)) (hb : w.cell? ⟨bn, 0, none⟩ = some (.string x)) (hlt : bn < w.heap.size) :
    Calls Tryd.prog 49 #[.slice A l.length c, .func (.func 50) #[] #[.pointer (some ⟨bn, 0, none⟩)]] w (FindPost w l x) := by
  have b0 := Blk.new w 44 #[.string ⟨#[]⟩, .string ⟨#[]⟩, .bool false]
  have z0 := gr_alloc (Below.refl w.heap.size w) (.cells #[.string ⟨#[]⟩, .string ⟨#[]⟩, .bool false] 44)
  have hA1 := hA.below z0
  have hb1 : (w.alloc (.cells #[.string ⟨#[]⟩, .string ⟨#[]⟩, .bool false] 44)).cell? ⟨bn, 0, none⟩ = some (.string x) := by rw [z0.cell (p := ⟨bn, 0, none⟩) hlt]; exact hb
  obtain ⟨n, hn⟩ : ∃ n, n = l.length := ⟨_, rfl⟩
  have H := Lib.hid (And.intro b0 (And.intro z0 (And.intro hA1 (And.intro hb1 (And.intro hn hl)))))
  rw [← hn] at hl ⊢
  clear b0 z0 hA1 hb1 hA hb hn
  go_enter Tryd.func49, Tryd.ntmps49
  go_wp2_with (fail)
  rw [H.out.2.2.2.2.1]
  refine (qindex l H.out.2.2.2.2.2 A c x bn _ H.out.2.2.1 H.out.2.2.2.1 (by simp; omega)).mono ?_
  rintro e W1 ⟨hor, h1⟩
  have k1 := H.out.1.call h1
  have r0 := k1.cell' (i := 0) rfl
  have r1 := k1.cell' (i := 1) rfl
  have r2 := k1.cell' (i := 2) rfl
  have f0 := k1.frozen 0
  have f1 := k1.frozen 1
  have f2 := k1.frozen 2
  have kl := k1.lt
  have hA2 := H.out.2.2.1.below h1
  have hB2 := gr_call H.out.2.1 h1
  rcases hor with ⟨rfl, hf⟩ | ⟨k, p, hp, hf, rfl⟩
  · have HF := Lib.hid (And.intro hf hB2)
    clear hf hB2 hA2 k1 h1
    go_wp2_with (fail)
    refine bodyPost_ret (v := .tuple #[.agg #[.string ⟨#[]⟩, .string ⟨#[]⟩, .bool false], .bool false]) (by simp [results, Tryd.results49, go_sem, r0, r1, r2, kl]) rfl ⟨.inl ⟨rfl, HF.out.1⟩, ?_⟩
    exact gr_set (gr_set (gr_set HF.out.2 (by simp) _) (by simp) _) (by simp) _
  · obtain ⟨ab, ao, rfl, hab, c0, c1, c2⟩ := cells_pair hA2 hp
    have hk := (List.getElem?_eq_some_iff.1 hp).1
    rw [← H.out.2.2.2.2.1] at hk
    have HF := Lib.hid (And.intro hf hB2)
    clear hf hB2 hA2 k1 h1 hp
    rw [← H.out.2.2.2.2.1]
    go_wp2_with (fail)
    refine bodyPost_ret (v := .tuple #[.agg #[.string p.n, .string p.v, .bool p.b], .bool true]) (by simp [results, Tryd.results49, go_sem, r0, r1, r2, kl]) rfl ⟨.inr ⟨p, HF.out.1, rfl⟩, ?_⟩
    exact gr_set (gr_set (gr_set HF.out.2 (by simp) _) (by simp) _) (by simp) _

set_option maxRecDepth 100000 in
set_option maxHeartbeats 2000000 in
theorem qget (s x : ByteArray) (hs : s.size ≤ 1000000) (w : World) (hm : MaxOk w) :
    Calls Tryd.prog 31 #[.string s, .string x] w fun e W' => e = .returned (.tuple #[.string (getV s.data.toList x), .int .i64 (getE s.data.toList x)]) ∧ Below w.heap.size w W' := by
  have hmf : ∀ (fn : Fn) (first cap : Array Value) (w : World), (Instr.makeFunc fn first cap).run Tryd.prog w = .ok (.func fn first cap) w := fun _ _ _ _ => rfl
  have b0 := Blk.new w 9 #[.string x]
  have z0 := gr_alloc (Below.refl w.heap.size w) (.cells #[.string x] 9)
  have H := Lib.hid (And.intro b0 (And.intro z0 (hm.below z0 (Nat.le_refl _))))
  clear b0 z0 hm
  go_enter Tryd.func31, Tryd.ntmps31
  go_wp2_with (fail)
  refine (qdecoded s hs _ H.out.2.2).mono ?_
  rintro e W1 ⟨v, rfl, hown, h1⟩
  have hB1 := gr_call H.out.2.1 h1
  have k1 := H.out.1.call h1
  by_cases hc : decE s.data.toList = 0
  · rw [hc]
    have hln : (decL s.data.toList).length ≤ 1000001 := by
      rw [(decE_ok (decE_zero hc).1 (decE_zero hc).2).2, List.length_map]
      unfold pairsL
      rw [List.length_map]
      have h1 := List.length_filter_le (fun p : List UInt8 => !p.isEmpty) (splitL 38 s.data.toList)
      have h2 := splitL_len 38 s.data.toList
      rw [size_data] at h2
      omega
    obtain ⟨A, c, rfl, hcl, _⟩ := own_cellsP hown
    have hv : getV s.data.toList x = (match findP x (decL s.data.toList) with | none => mkB [] | some v => v) ∧ getE s.data.toList x = (match findP x (decL s.data.toList) with | none => 6 | some _ => 0) := by
      unfold getV getE; rw [if_pos hc, if_pos hc]; exact ⟨rfl, rfl⟩
    have cb := k1.cell' (i := 0) rfl
    have kl := k1.lt
    have B := Lib.hid (And.intro hB1 (And.intro hcl (And.intro cb hv)))
    clear hc hown h1 hB1 k1 hcl cb hv
    go_wp2_with (fail)
    refine (qfind _ hln A c x w.heap.size _ B.out.2.1 B.out.2.2.1 kl).mono ?_
    rintro e W2 ⟨hor, h2⟩
    have hB2 := gr_call B.out.1 h2
    rcases hor with ⟨rfl, hf⟩ | ⟨p, hf, rfl⟩
    · have HF := Lib.hid (And.intro hf hB2)
      clear hf hB2 h2
      go_wp2_with (fail)
      go_ret2
      rw [B.out.2.2.2.1, B.out.2.2.2.2, HF.out.1]
      exact ⟨rfl, gr_alloc HF.out.2 _⟩
    · have HF := Lib.hid (And.intro hf hB2)
      clear hf hB2 h2
      go_wp2_with (fail)
      go_ret2
      rw [B.out.2.2.2.1, B.out.2.2.2.2, HF.out.1]
      exact ⟨rfl, gr_alloc HF.out.2 _⟩
  · have hne : (decE s.data.toList != 0) = true := by simpa using hc
    have hv : getV s.data.toList x = mkB [] ∧ getE s.data.toList x = decE s.data.toList := by
      unfold getV getE; rw [if_neg hc, if_neg hc]; exact ⟨rfl, rfl⟩
    have B := Lib.hid (And.intro hB1 hv)
    clear hc hown h1 hB1 k1 hv
    go_wp2_with (fail)
    go_ret2
    rw [B.out.2.1, B.out.2.2]
    exact ⟨rfl, B.out.1⟩
end Go.Proofs.YtfbkbnojbbpopaaDoor
