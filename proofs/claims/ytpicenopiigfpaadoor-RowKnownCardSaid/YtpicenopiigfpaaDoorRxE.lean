/-
  The law's light, walked; an argument that is a list of rows: opened; no condition.
-/
import Derived.Test.YtpicenopiigfpaaDoorRwL
import Derived.Test.YtpicenopiigfpaaDoorWrp
namespace Go.Proofs.YtpicenopiigfpaaDoor
open Go.ChangeShapes Go.WideShapes Go.ChangeAt Go.RowKit Go.Deep
set_option linter.unusedVariables false
set_option linter.unusedSimpArgs false

/-! Rows that came in. -/
section
variable {H : Type} {enc : TypeId × Value → H} {w : World} {base b0 : Nat} {spare : Nat → Bool} {held : Bool}
set_option maxRecDepth 100000 in
theorem open_cells2 {t e : TypeId} {m : Nat} (hm0 : 0 < m) (T : Type) [Inhabited T] (mk : T → Nat → Value) (ht : Tryd.prog.underlying t = some (.slice e)) (hC : Tryd.prog.cellsOf e = m)
    (hel : ∀ cs' n y, cs'.length = m → DataW.trod enc Tryd.prog w base spare held n e cs' = some y → ∃ d : T, ∀ j, j < m → cs'[j]? = some (mk d j))
    {c : Value} {fuel : Nat} {x : DataW H × List MemPlace} (hf : DataW.trod enc Tryd.prog w base spare held fuel t [c] = some x) :
    ∃ A len cap, ∃ G : Nat → T, c = .slice A len cap ∧ ArgOk A len cap ∧ Cells w A m len (fun i => mk (G i)) := by
  obtain ⟨x1, x2⟩ := x
  rcases open_slice ht hf with ⟨hcs, hx⟩ | ⟨a, len, cap, k, n, D, Pl, hcs, hb, hl, hmx, hk, hx, hi⟩
  · simp at hcs
    subst hcs
    exact ⟨none, 0, 0, fun _ => default, rfl, (show ArgOk _ _ _ from fun _ => ⟨rfl, rfl⟩), fun hn => absurd hn (by omega)⟩
  · simp at hcs
    subst hcs
    have hlk : len ≤ k := by rw [hk]; split <;> omega
    have h1 : ∀ i, ∃ d : T, i < len → ∀ j, j < m → w.cell? ((a.add (i * m)).add j) = some (mk d j) := by
      intro i
      by_cases hlt : i < len
      · obtain ⟨cs', hc, htr⟩ := hi i (by omega)
        rw [hC] at hc
        obtain ⟨_, hcl, hat⟩ := World.cells?_some hc
        obtain ⟨d, hd⟩ := hel cs' n _ hcl htr
        exact ⟨d, fun _ j hj => (hat j hj).trans (hd j hj)⟩
      · exact ⟨default, fun h => absurd h hlt⟩
    obtain ⟨G, hG⟩ := Classical.axiomOfChoice h1
    refine ⟨some a, len, cap, G, rfl, (show ArgOk _ _ _ from fun h => by cases h), (show Cells _ _ _ _ _ from fun hn => ?_)⟩
    have h00 := hG 0 hn 0 hm0
    obtain ⟨b, off, sp⟩ := a
    have e0 : ((Addr.mk b off sp).add (0 * m)).add 0 = ⟨b, off, sp⟩ := by rw [Nat.zero_mul]; rfl
    rw [e0] at h00
    obtain ⟨hlt, hsp⟩ := cell_block h00
    simp only at hsp hlt
    subst hsp
    refine ⟨b, off, rfl, hlt, fun i j hin hj => ?_⟩
    have := hG i hin j hj
    rwa [Addr.add_lit, Addr.add_lit] at this
instance : Inhabited Wd := ⟨⟨0, ⟨#[]⟩, false⟩⟩
set_option maxRecDepth 100000 in
theorem el_word (cs : List Value) (n : Nat) (y : DataW H × List MemPlace) (hl : cs.length = 3) (h : DataW.trod enc Tryd.prog w base spare held n 41 cs = some y) :
    ∃ p : Wd, ∀ j, j < 3 → cs[j]? = some ((((wdC p)[j]?).getD (.bool false))) := by
  obtain ⟨fs, hu, hone, hty⟩ : ∃ fs, Tryd.prog.underlying 41 = some (.struct fs) ∧ oneCellFields Tryd.prog fs = true ∧ (fs.map (fun x : Field => x.type)).toList = [3, 9, 4] := ⟨_, Tryd.underlying41, by kernel_rfl, by kernel_rfl⟩
  have hj : ∀ j t, [3, 9, 4][j]? = some t → (fs[j]?).map (fun x : Field => x.type) = some t := fun j t ht => by
    rw [← hty, Array.getElem?_toList, Array.getElem?_map] at ht
    exact ht
  obtain ⟨z0, e0, _⟩ := field_int hu hone h Tryd.underlying3 0 (hj 0 _ rfl)
  obtain ⟨s1, e1, _⟩ := field_str hu hone h Tryd.underlying9 1 (hj 1 _ rfl)
  obtain ⟨b2, e2⟩ := field_bool hu hone h Tryd.underlying4 2 (hj 2 _ rfl)
  refine ⟨⟨z0, s1, b2⟩, fun j hj => ?_⟩
  match j, hj with
  | 0, _ => exact e0
  | 1, _ => exact e1
  | 2, _ => exact e2
theorem words_of_cells {A : Option Addr} {len cap : Nat} {G : Nat → Wd} (hA : ArgOk A len cap) (hc : Cells w A 3 len (fun i j => ((wdC (G i))[j]?).getD (.bool false))) : WordsIn w (.slice A len cap) ((List.range len).map G) := by
  have hlen : ((List.range len).map G).length = len := by simp
  refine ⟨A, cap, by rw [hlen], by rw [hlen]; exact hA, ?_⟩
  rw [hlen]
  intro hn
  obtain ⟨a, o, e, hlt, h⟩ := hc hn
  refine ⟨a, o, e, hlt, fun i j hi hj => ?_⟩
  rw [h i j hi hj]
  unfold wdAt
  have : ((List.range len).map G)[i]? = some (G i) := by simp [hi]
  rw [this]
/-- A row's cells with what they read as. -/
abbrev RwIn (w : World) := { p : Rw × Value // WordsIn w p.2 p.1.w }
instance : Inhabited (RwIn w) := ⟨⟨(⟨0, []⟩, .slice none 0 0), ⟨none, 0, rfl, fun _ => ⟨rfl, rfl⟩, fun h => absurd h (by decide)⟩⟩⟩
set_option maxRecDepth 100000 in
theorem el_row (cs : List Value) (n : Nat) (y : DataW H × List MemPlace) (hl : cs.length = 2) (h : DataW.trod enc Tryd.prog w base spare held n 39 cs = some y) :
    ∃ p : RwIn w, ∀ j, j < 2 → cs[j]? = some (([Value.int .i64 p.val.1.a, p.val.2][j]?).getD (.bool false)) := by
  obtain ⟨fs, hu, hone, hty⟩ : ∃ fs, Tryd.prog.underlying 39 = some (.struct fs) ∧ oneCellFields Tryd.prog fs = true ∧ (fs.map (fun x : Field => x.type)).toList = [3, 37] := ⟨_, Tryd.underlying39, by kernel_rfl, by kernel_rfl⟩
  have hj : ∀ j t, [3, 37][j]? = some t → (fs[j]?).map (fun x : Field => x.type) = some t := fun j t ht => by
    rw [← hty, Array.getElem?_toList, Array.getElem?_map] at ht
    exact ht
  obtain ⟨z0, e0, _⟩ := field_int hu hone h Tryd.underlying3 0 (hj 0 _ rfl)
  obtain ⟨f, hf, hft⟩ := Option.map_eq_some_iff.1 (hj 1 _ rfl)
  obtain ⟨n', y', hy⟩ := open_field hu hone h 1 f hf
  rw [hft] at hy
  have h1 : (cs.drop 1).take 1 = [cs[1]'(by omega)] := by
    match cs, hl with
    | [a, b], _ => rfl
  rw [h1] at hy
  obtain ⟨A, len, cap, G, hv, hA, hc⟩ := open_cells2 (m := 3) (by decide) Wd (fun p j => ((wdC p)[j]?).getD (.bool false)) Tryd.underlying37 (by kernel_rfl) el_word hy
  have hw := words_of_cells hA hc
  rw [← hv] at hw
  refine ⟨⟨(⟨z0, (List.range len).map G⟩, cs[1]'(by omega)), hw⟩, fun j hj => ?_⟩
  match j, hj with
  | 0, _ => exact e0
  | 1, _ => exact List.getElem?_eq_getElem (by omega)
set_option maxRecDepth 100000 in
theorem open_rows {v : Value} {d : DataW H} {ps : List MemPlace} (hval : Value.okWide Tryd.prog w .any b0 23 v) (hd : DataW.Trod enc Tryd.prog w base spare held 23 v d ps) :
    ∃ rs : List Rw, RowsIn w v rs := by
  obtain ⟨A, len, cap, G, rfl, hA, hc⟩ := open_cells (m := 2) (by decide) (RwIn w) (fun p j => ([Value.int .i64 p.val.1.a, p.val.2][j]?).getD (.bool false)) Tryd.underlying23 (by kernel_rfl) el_row hval hd
  have hlen : ((List.range len).map fun i => (G i).val.1).length = len := by simp
  refine ⟨(List.range len).map fun i => (G i).val.1, A, cap, (List.range len).map fun i => (G i).val.2, by rw [hlen], by rw [hlen]; exact hA, ?_, by simp, fun i r u hr hu => ?_⟩
  · rw [hlen]
    intro hn
    obtain ⟨a, o, e, hlt, h⟩ := hc hn
    refine ⟨a, o, e, hlt, fun i j hi hj => ?_⟩
    rw [h i j hi hj]
    unfold rwAt
    have h1 : ((List.range len).map fun i => (G i).val.1)[i]? = some (G i).val.1 := by simp [hi]
    have h2 : ((List.range len).map fun i => (G i).val.2)[i]? = some (G i).val.2 := by simp [hi]
    rw [h1, h2]
    match j, hj with
    | 0, _ => rfl
    | 1, _ => rfl
  · rw [List.getElem?_map] at hr hu
    have hi : i < len := by
      rcases Nat.lt_or_ge i len with h | h
      · exact h
      · rw [List.getElem?_eq_none (by simpa using h)] at hr; cases hr
    rw [List.getElem?_range hi] at hr hu
    cases hr
    cases hu
    exact (G i).property
end

/-! light. -/
def okR (r : Rw) : Bool := decide (r.w.length ≤ 60) && r.w.all fun d => decide (d.t.size ≤ 1100)
/-- Whether a list of rows is light. -/
def lightB (rs : List Rw) : Bool := decide (rs.length ≤ 300) && rs.all okR
theorem light_no {rs : List Rw} {k : Nat} {r : Rw} (h : rs[k]? = some r) (hr : okR r = false) : lightB rs = false := by
  unfold lightB
  have : rs.all okR = false := by
    rw [List.all_eq_false]
    exact ⟨r, List.mem_of_getElem? h, by rw [hr]; decide⟩
  rw [this, Bool.and_false]
theorem okR_no {r : Rw} {j : Nat} {d : Wd} (h : r.w[j]? = some d) (hd : 1100 < d.t.size) : okR r = false := by
  unfold okR
  have : (r.w.all fun d => decide (d.t.size ≤ 1100)) = false := by
    rw [List.all_eq_false]
    exact ⟨d, List.mem_of_getElem? h, by simp; omega⟩
  rw [this, Bool.and_false]

set_option maxRecDepth 100000 in
set_option maxHeartbeats 4000000 in
theorem llight (rs : List Rw) (v : Value) (w : World) (hv : RowsIn w v rs) :
    Calls Tryd.prog 19 #[v] w fun e W' => e = .returned (.bool (lightB rs)) ∧ W' = w := by
  obtain ⟨A, c, vs, rfl, _, hA, hvs, hin⟩ := hv
  obtain ⟨n, hn⟩ : ∃ n, n = rs.length := ⟨_, rfl⟩
  have HA := Lib.hid (And.intro hA (And.intro hin (And.intro hvs hn)))
  rw [← hn]
  clear hA hin hvs hn
  go_enter Tryd.func19, Tryd.ntmps19
  go_wp2_with (fail)
  go_loopw [3] (fun iv wr => (∃ k : Nat, k ≤ n ∧ k ≤ 300 ∧ iv = .int .i64 (k : Int) ∧ (rs.take k).all okR = true) ∧ wr = w) (fun iv _ => n - (intOf iv).toNat)
  case atStart => exact ⟨⟨0, Nat.zero_le _, by decide, rfl, rfl⟩, rfl⟩
  case round =>
    obtain ⟨⟨k, hk, hk3, rfl, hall⟩, rfl⟩ := hrel
    by_cases hlt : k < n ∧ k < 300
    · have h1 : (k : Int) < n := by omega
      have h2 : (k : Int) < 300 := by omega
      obtain ⟨r, hr⟩ : ∃ r, rs[k]? = some r := ⟨_, List.getElem?_eq_getElem (by rw [← HA.out.2.2.2]; exact hlt.1)⟩
      obtain ⟨u, hu⟩ : ∃ u, vs[k]? = some u := ⟨_, List.getElem?_eq_getElem (by rw [HA.out.2.2.1, ← HA.out.2.2.2]; exact hlt.1)⟩
      obtain ⟨ab, ao, rfl, hab, c0, c1⟩ := cells_rw HA.out.1 hr hu
      have hwi := HA.out.2.1 k r u hr hu
      obtain ⟨B, d, rfl, _, hcB⟩ := hwi
      have htk : rs.take (k + 1) = rs.take k ++ [r] := by rw [List.take_add_one, hr]; rfl
      by_cases h60 : r.w.length ≤ 60
      · have h6 : ¬ (60 : Int) < r.w.length := by omega
        have F := Lib.hid (And.intro hall (And.intro hr (And.intro htk hcB)))
        clear hall hr htk hcB hu hlt
        go_wp2_with (fail)
        go_loopw [4] (fun jv wx => (∃ j : Nat, j ≤ r.w.length ∧ jv = .int .i64 (j : Int) ∧ (r.w.take j).all (fun d => decide (d.t.size ≤ 1100)) = true) ∧ wx = wr) (fun jv _ => r.w.length - (intOf jv).toNat)
        case atStart => exact ⟨⟨0, Nat.zero_le _, rfl, rfl⟩, rfl⟩
        case round =>
          obtain ⟨⟨j, hj, rfl, hja⟩, rfl⟩ := hrel
          by_cases hjl : j < r.w.length
          · have hji : (j : Int) < r.w.length := by omega
            obtain ⟨q, hq⟩ : ∃ q, r.w[j]? = some q := ⟨_, List.getElem?_eq_getElem hjl⟩
            obtain ⟨bb, bo, rfl, hbb, e0, e1, e2⟩ := cells_wd F.out.2.2.2 hq
            have hjt : r.w.take (j + 1) = r.w.take j ++ [q] := by rw [List.take_add_one, hq]; rfl
            by_cases h11 : q.t.size ≤ 1100
            · have h12 : ¬ (1100 : Int) < q.t.size := by omega
              have G := Lib.hid (And.intro hja hjt)
              clear hja hjt hq
              go_wp2_with (fail)
              go_roundw
              case rel => exact ⟨⟨j + 1, by omega, rfl, by rw [G.out.2, List.all_append, G.out.1]; simp; omega⟩, trivial⟩
              case measure => simp [intOf]; omega
            · have h12 : (1100 : Int) < q.t.size := by omega
              have G := Lib.hid (light_no F.out.2.1 (okR_no hq (by omega)))
              clear hja hjt hq
              go_wp2_with (fail)
              go_ret
              exact ⟨by rw [G.out]; rfl, rfl⟩
          · have hji : ¬ (j : Int) < r.w.length := by omega
            have hje : okR r = true := by
              have h := hja
              rw [List.take_of_length_le (show r.w.length ≤ j by omega)] at h
              unfold okR
              rw [decide_eq_true h60, h]; rfl
            have G := Lib.hid hje
            clear hja hje
            go_wp2_with (fail)
            go_roundw
            case rel => exact ⟨⟨k + 1, by omega, by omega, rfl, by rw [F.out.2.2.1, List.all_append, F.out.1]; show (true && (okR r && true)) = true; rw [G.out]; rfl⟩, trivial⟩
            case measure => simp [intOf]; omega
      · have h6 : (60 : Int) < r.w.length := by omega
        have F := Lib.hid (light_no hr (show okR r = false by unfold okR; rw [decide_eq_false h60]; rfl))
        clear hall hr htk hcB hu hlt
        go_wp2_with (fail)
        go_ret
        exact ⟨by rw [F.out]; rfl, rfl⟩
    · by_cases h3 : n ≤ 300
      · have hke : k = n := by omega
        have hl : lightB rs = true := by
          unfold lightB
          rw [← HA.out.2.2.2, decide_eq_true h3, ← hall, hke, List.take_of_length_le (by rw [← HA.out.2.2.2]; exact Nat.le_refl _)]
          simp
        have h1 : ¬ (k : Int) < n := by omega
        have h4 : (n : Int) ≤ 300 := by omega
        have F := Lib.hid hl
        clear hall hl hlt
        go_wp2_with (fail)
        go_ret
        exact ⟨by rw [F.out]; rfl, rfl⟩
      · have hl : lightB rs = false := by
          unfold lightB
          rw [← HA.out.2.2.2, decide_eq_false h3]; rfl
        have h4 : ¬ (n : Int) ≤ 300 := by omega
        have h2 : ¬ (k : Int) < 300 := by omega
        have F := Lib.hid hl
        clear hall hl hlt
        by_cases h1 : (k : Int) < n
        all_goals
          go_wp2_with (fail)
          go_ret
          exact ⟨by rw [F.out]; rfl, rfl⟩
end Go.Proofs.YtpicenopiigfpaaDoor
