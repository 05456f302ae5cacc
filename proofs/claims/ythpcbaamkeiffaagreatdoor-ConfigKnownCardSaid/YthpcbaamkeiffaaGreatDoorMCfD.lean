/-
  flag.Text, walked; conditions: the two tables lie as they are laid, a variable of the library is an int.
  Texts of configurations, and what texts say, as plain functions; no program is in sight; no condition.
  config.words, walked: a row of strings, numbers and options; conditions: how many there are.
-/
import Derived.Maps.AppendAt
import Derived.Laws.AppendOwnNone
import Derived.Lib.SlicesS
import Derived.Sort.BigQuietIn
import Derived.Test.YthpcbaamkeiffaaGreatDoorMFlgA
import Derived.Test.YthpcbaamkeiffaaGreatDoorMFtH
import Derived.Test.YthpcbaamkeiffaaGreatDoorMFtE
import Derived.Test.YthpcbaamkeiffaaGreatDoorMRxA
import Derived.Test.YthpcbaamkeiffaaGreatDoorMShelf
namespace Go.Proofs.YthpcbaamkeiffaaGreatDoor
open Go.RowKit
set_option linter.unusedVariables false
set_option linter.unusedSimpArgs false

/-- Two rows do not share a block. -/
def RowsApart (a b : Value) : Prop := ∀ k, a.ownBlock = some k → b.ownBlock ≠ some k
theorem RowsApart.symm {a b : Value} (h : RowsApart a b) : RowsApart b a := fun k hb ha => h k ha hb
theorem RowsApart.keep {a b : Value} (h : RowsApart a b) : a.ownBlock = none ∨ a.ownBlock ≠ b.ownBlock := by
  cases ha : a.ownBlock with
  | none => exact .inl rfl
  | some k => exact .inr fun e => h k ha e.symm
theorem RowsApart.step {a b b' : Value} {n : Nat} (h : RowsApart a b) (hl : ∀ k, a.ownBlock = some k → k < n) (h' : b'.ownBlock = b.ownBlock ∨ b'.ownBlock = some n) : RowsApart a b' := fun k ha hb => by
  rcases h' with e | e
  · exact h k ha (e.symm.trans hb)
  · have := hl k ha
    rw [hb] at e
    have := Option.some.inj e
    omega
theorem own_form {w : World} {base size n : Nat} {e : TypeId} {v : Value} {xs : List Value} (h : w.ownsRow base e size v n xs) (hn : 0 < n) : ∃ g cap, v = .slice (some ⟨g, 0, none⟩) n cap ∧ base ≤ g ∧ g < w.heap.size ∧ n ≤ cap := by
  rcases h.2 with ⟨_, h0⟩ | ⟨g, cap, cur, hv, hb, hh, hc, _⟩
  · omega
  · exact ⟨g, cap, hv, hb, (Array.getElem?_eq_some_iff.1 hh).1, hc⟩
/-- The flags' box and three rows of strings of the call's own. -/
def TxSt (f : Flg) (N : Nat) (w : World) (xs b c : List ByteArray) (v vb vc : Value) (wr : World) : Prop :=
  wr.ownsRow N 9 1 v xs.length (xs.map .string) ∧ wr.ownsRow N 9 1 vb b.length (b.map .string) ∧ wr.ownsRow N 9 1 vc c.length (c.map .string) ∧
  RowsApart v vb ∧ RowsApart v vc ∧ RowsApart vb vc ∧ (c = [] → vc = .slice none 0 0) ∧ Blk wr N 64 #[Value.bool f.last, .bool f.next, .bool f.chain, .bool f.fin, .bool f.forb, .bool f.gone, .bool f.app, .bool f.disc, .int .i64 f.skip, .int .i64 f.red] ∧ Below N w wr
section
variable {f : Flg} {N : Nat} {w wr w2 : World} {xs b c : List ByteArray} {v vb vc v' : Value} {x : ByteArray}
theorem TxSt.app_b (h : TxSt f N w xs b c v vb vc wr) (hown : w2.ownsRow N 9 1 v' (b.length + 1) (b.map .string ++ [.string x])) (hg : (wr.alloc (.cells #[.string x] 9)).grownBy w2 vb.ownBlock)
    (hat : v'.ownBlock = vb.ownBlock ∨ v'.ownBlock = some (wr.heap.size + 1)) : TxSt f N w xs (b ++ [x]) c v v' vc w2 := by
  rw [← World.size_alloc wr (.cells #[.string x] 9)] at hat
  obtain ⟨h1, h2, h3, a1, a2, a3, hc, hb, hbel⟩ := h
  have ha := hb.alloc (.cells #[.string x] 9)
  have l1 := fun k hk => ((h1.alloc (.cells #[.string x] 9)).lt k hk).2
  have l3 := fun k hk => ((h3.alloc (.cells #[.string x] 9)).lt k hk).2
  refine ⟨(h1.alloc _).kept hg a1.keep, ?_, (h3.alloc _).kept hg a3.symm.keep, a1.step l1 hat, a2, (a3.symm.step l3 hat).symm, hc, ha.grown hg (own_blk_ne (h2.alloc _) ha (by decide)), (hbel.alloc (Nat.le_of_lt hb.lt) _).grown hg (by have := hb.lt; simp; omega) (fun k hk => (h2.lt k hk).1)⟩
  rw [List.length_append, List.map_append]
  exact hown
theorem TxSt.app_c (h : TxSt f N w xs b c v vb vc wr) (hown : w2.ownsRow N 9 1 v' (c.length + 1) (c.map .string ++ [.string x])) (hg : (wr.alloc (.cells #[.string x] 9)).grownBy w2 vc.ownBlock)
    (hat : v'.ownBlock = vc.ownBlock ∨ v'.ownBlock = some (wr.heap.size + 1)) : TxSt f N w xs b (c ++ [x]) v vb v' w2 := by
  rw [← World.size_alloc wr (.cells #[.string x] 9)] at hat
  obtain ⟨h1, h2, h3, a1, a2, a3, hc, hb, hbel⟩ := h
  have ha := hb.alloc (.cells #[.string x] 9)
  have l1 := fun k hk => ((h1.alloc (.cells #[.string x] 9)).lt k hk).2
  have l2 := fun k hk => ((h2.alloc (.cells #[.string x] 9)).lt k hk).2
  refine ⟨(h1.alloc _).kept hg a2.keep, (h2.alloc _).kept hg a3.keep, ?_, a1, a2.step l1 hat, a3.step l2 hat, fun e => absurd e (by simp), ha.grown hg (own_blk_ne (h3.alloc _) ha (by decide)), (hbel.alloc (Nat.le_of_lt hb.lt) _).grown hg (by have := hb.lt; simp; omega) (fun k hk => (h3.lt k hk).1)⟩
  rw [List.length_append, List.map_append]
  exact hown
end
theorem idx_ad (f : Flg) (k : Nat) (hk : k < 2) (w : World) : (Instr.index 120 (.agg #[.bool f.app, .bool f.disc]) (.int .i64 (k : Int))).run Tryz.prog w = .ok (.bool (ad2 f k)) w := by
  have h : k = 0 ∨ k = 1 := by omega
  rcases h with rfl | rfl
  · show (Instr.index 120 _ (.int .i64 0)).run Tryz.prog w = .ok (.bool f.app) w
    kernel_rfl
  · show (Instr.index 120 _ (.int .i64 1)).run Tryz.prog w = .ok (.bool f.disc) w
    kernel_rfl
theorem sub_ad (k : Nat) (hk : k < 2) (w : World) : (Instr.slice 9 (.string ⟨#[65, 68]⟩) (some (.int .i64 (k : Int))) (some (.int .i64 ((k : Int) + 1))) none).run Tryz.prog w = .ok (.string (letAD k)) w := by
  have h : k = 0 ∨ k = 1 := by omega
  rcases h with rfl | rfl
  · show (Instr.slice 9 _ (some (.int .i64 0)) (some (.int .i64 1)) none).run Tryz.prog w = .ok (.string ⟨#[65]⟩) w
    kernel_rfl
  · show (Instr.slice 9 _ (some (.int .i64 1)) (some (.int .i64 2)) none).run Tryz.prog w = .ok (.string ⟨#[68]⟩) w
    kernel_rfl
def ftxV (f : Flg) : ByteArray := if chkF f = 0 then ftxF f else ⟨#[]⟩
theorem skip_size {f : Flg} (h : chkF f = 0) : ∀ x ∈ skipL f ++ redL f, x.size ≤ 102 := by
  obtain ⟨h1, h2, h3, _⟩ := chkF_zero h
  intro x hx
  unfold skipL redL at hx
  rcases List.mem_append.1 hx with h | h
  · split at h
    · cases h
    · obtain rfl := List.mem_singleton.1 h
      have := itoa_skip f.skip h1 h2
      rw [ByteArray.size_append]
      show 2 + _ ≤ _
      omega
  · split at h
    · cases h
    · rename_i hr
      obtain rfl := List.mem_singleton.1 h
      have := itoa_red f.red (by rw [beq_eq_false_iff_ne.2 hr] at h3; simpa using h3)
      rw [ByteArray.size_append]
      show 2 + _ ≤ _
      omega
theorem skip_len (f : Flg) : (skipL f ++ redL f).length ≤ 2 := by
  unfold skipL redL
  rw [List.length_append]
  split <;> split <;> simp
theorem parts_size {f : Flg} (h : chkF f = 0) : ∀ x ∈ partsL f, x.size ≤ 102 := by
  intro x hx
  unfold partsL at hx
  rcases List.mem_append.1 hx with h1 | h1
  · rcases List.mem_append.1 h1 with h2 | h2
    · have := wayL_size f 6 x h2; omega
    · have := adL_size f 2 x h2; omega
  · exact skip_size h x h1
theorem partsL_len (f : Flg) : (partsL f).length ≤ 10 := by
  unfold partsL
  rw [List.length_append, List.length_append]
  have h1 := wayL_le f 6
  have h2 := adL_len f 2
  have h3 := skip_len f
  omega
theorem partsL_join {f : Flg} (h : chkF f = 0) : (Lib.join ((partsL f).map (·.data.toList)) [44]).length ≤ 1030 := by
  have h1 := join_le (partsL f) (parts_size h)
  have h2 := partsL_len f
  have : (102 + 1) * (partsL f).length ≤ 103 * 10 := Nat.mul_le_mul (Nat.le_refl _) h2
  omega
/-- What joins the parts. -/
theorem text_join {f : Flg} (hf : chkF f = 0) {w W : World} {g n cap : Nat} {bl : List ByteArray} (hown : W.ownsRow w.heap.size 9 1 (.slice (some ⟨g, 0, none⟩) n cap) bl.length (bl.map .string)) (hb : bl = partsL f) (h0 : 0 < bl.length) (hw : Below w.heap.size w W) :
    (∀ (j : Nat) x, (partsL f)[j]? = some x → W.cell? ⟨g, 0 + j, none⟩ = some (.string x)) ∧ (Lib.join ((partsL f).map (·.data.toList)) [44]).length ≤ 1030 ∧ ftxV f = ⟨#[91]⟩ ++ joinT (partsL f) ++ ⟨#[93]⟩ ∧ Below w.heap.size w W := by
  subst hb
  refine ⟨fun j x hx => ?_, partsL_join hf, ?_, hw⟩
  · have := hown.cells (g := g) rfl j (.string x) (by rw [List.getElem?_map, hx]; rfl)
    rwa [Addr.add_lit] at this
  · unfold ftxV ftxF textL
    rw [if_pos hf, if_neg (fun e => by rw [e] at h0; exact absurd h0 (by decide))]
def TxA (f : Flg) (N : Nat) (w : World) (v : Value) (vb vc i : Value) (wr : World) : Prop :=
  ∃ k : Nat, k ≤ (waysL f).length ∧ i = .int .i64 (k : Int) ∧ TxSt f N w (waysL f) (((waysL f).take k).filter fun x => !isEq x) (((waysL f).take k).filter isEq) v vb vc wr
def TxB (f : Flg) (N : Nat) (w : World) (cl : List ByteArray) (v vc : Value) (vb i : Value) (wr : World) : Prop :=
  ∃ (k : Nat) (bl : List ByteArray), k ≤ 2 ∧ i = .int .i64 (k : Int) ∧ bl = wayL f 6 ++ adL f k ∧ TxSt f N w (waysL f) bl cl v vb vc wr
theorem adL_yes {f : Flg} {k : Nat} (h : ad2 f k = true) : adL f (k + 1) = adL f k ++ [letAD k] := by
  conv => lhs; unfold adL
  rw [if_pos h]
theorem adL_no {f : Flg} {k : Nat} (h : ad2 f k = false) : adL f (k + 1) = adL f k := by
  conv => lhs; unfold adL
  rw [h]; simp

set_option maxRecDepth 100000 in
set_option maxHeartbeats 2000000 in
theorem ftext (f : Flg) (hb : (-9223372036854775808 ≤ f.skip ∧ f.skip ≤ 9223372036854775807)) (w : World) (hT : Tabs w) (hm : MaxOk w) :
    Calls Tryz.prog 37 #[Value.agg #[Value.bool f.last, .bool f.next, .bool f.chain, .bool f.fin, .bool f.forb, .bool f.gone, .bool f.app, .bool f.disc, .int .i64 f.skip, .int .i64 f.red]] w fun e W' => e = .returned (.tuple #[.string (ftxV f), .int .i64 (chkF f)]) ∧ Below w.heap.size w W' := by
  have HT := Lib.hid (And.intro hT hm)
  have i0 := gr_alloc (Below.refl w.heap.size w) (.cells #[Value.bool f.last, .bool f.next, .bool f.chain, .bool f.fin, .bool f.forb, .bool f.gone, .bool f.app, .bool f.disc, .int .i64 f.skip, .int .i64 f.red] 64)
  have f0 := Blk.new w 64 #[Value.bool f.last, .bool f.next, .bool f.chain, .bool f.fin, .bool f.forb, .bool f.gone, .bool f.app, .bool f.disc, .int .i64 f.skip, .int .i64 f.red]
  have H0 := Lib.hid (And.intro f0 i0)
  clear hT hm f0 i0
  obtain ⟨i0, hi, hz0, hz1, hz2⟩ := info_parts infoStr
  go_enter Tryz.func37, Tryz.ntmps37
  go_wp2_with (fail)
  refine (fcheck f hb _ (HT.out.1.below H0.out.2 (Nat.le_refl _))).mono ?_
  rintro e W1 ⟨rfl, h1⟩
  have H1 := Lib.hid (And.intro (H0.out.1.call h1) (gr_call H0.out.2 h1))
  clear h1 H0
  obtain ⟨ce, hce⟩ : ∃ ce, ce = chkF f := ⟨_, rfl⟩
  have HC := Lib.hid hce
  rw [← hce]
  clear hce
  by_cases hc0 : ce = 0
  · have q : (ce != 0) = false := by simp; exact hc0
    have hC : chkF f = 0 := HC.out.symm.trans hc0
    obtain ⟨z1, z2, z3, z4⟩ := chkF_zero hC
    have HZ := Lib.hid (And.intro hC z3)
    have hwl1 : (waysL f).length ≤ 1 := by rw [waysL_len]; exact z4
    clear hc0 hC z3 z4
    have k0 := H1.out.1.cell' (i := 0) rfl
    have k1 := H1.out.1.cell' (i := 1) rfl
    have k2 := H1.out.1.cell' (i := 2) rfl
    have k3 := H1.out.1.cell' (i := 3) rfl
    have k4 := H1.out.1.cell' (i := 4) rfl
    have k5 := H1.out.1.cell' (i := 5) rfl
    have k6 := H1.out.1.cell' (i := 6) rfl
    have k7 := H1.out.1.cell' (i := 7) rfl
    have k8 := H1.out.1.cell' (i := 8) rfl
    have k9 := H1.out.1.cell' (i := 9) rfl
    have klt := H1.out.1.lt
    go_wp2_with (fail)
    refine (fways f ⟨z1, z2⟩ HZ.out.2 _ (HT.out.1.below H1.out.2 (Nat.le_refl _))).mono ?_
    rintro e W2 ⟨v, rfl, hown, h2w⟩
    clear k0 k1 k2 k3 k4 k5 k6 k7 k8 k9 klt
    obtain ⟨va, vcap, rfl⟩ := own_slice hown
    have hst : TxSt f w.heap.size w (waysL f) [] [] (.slice va (waysL f).length vcap) (.slice none 0 0) (.slice none 0 0) W2 :=
      ⟨own_weaken hown H1.out.2.size, World.ownsRow_nil _ _ _ _, World.ownsRow_nil _ _ _ _, fun _ _ => by simp [Value.ownBlock], fun _ _ => by simp [Value.ownBlock], fun _ h => by simp [Value.ownBlock] at h, fun _ => rfl, H1.out.1.call h2w, gr_call H1.out.2 h2w⟩
    have HS := Lib.hid hst
    clear hown h2w H1 hst
    go_wp2_with (fail)
    go_loopw [5, 6, 20] (fun vb vc i wr => TxA f w.heap.size w (.slice va (waysL f).length vcap) vb vc i wr) (fun _ _ i _ => (waysL f).length - (intOf i).toNat)
    case atStart => exact ⟨0, Nat.zero_le _, rfl, HS.out⟩
    case round =>
      clear HS
      obtain ⟨k, hk, rfl, hst⟩ := hrel
      have hmm := HT.out.2.below hst.2.2.2.2.2.2.2.2 (Nat.le_refl _)
      by_cases hlt : k < (waysL f).length
      · obtain ⟨x, hx⟩ : ∃ x, (waysL f)[k]? = some x := ⟨(waysL f)[k], List.getElem?_eq_getElem hlt⟩
        obtain ⟨g, cap, hgv, hgN, hgl, hgc⟩ := own_form hst.1 (by omega)
        have hga : va = some ⟨g, 0, none⟩ := by injection hgv
        subst hga
        have hc : wr.cell? ⟨g, k, none⟩ = some (.string x) := by
          have := hst.1.cells (g := g) rfl k (.string x) (by rw [List.getElem?_map, hx]; rfl)
          rw [Addr.add_lit, Nat.zero_add] at this
          exact this
        have hxs : x.size ≤ 102 := by
          have hm := List.mem_of_getElem? hx
          unfold waysL at hm
          rw [List.append_assoc] at hm
          rcases List.mem_append.1 hm with h | h
          · have := wayL_size f 6 x h; omega
          · exact skip_size HZ.out.1 x h
        obtain ⟨m, hmm⟩ := hmm
        have HX := Lib.hid (And.intro hx (And.intro hst hmm))
        obtain ⟨xe, hxe⟩ : ∃ b, b = isEq x := ⟨_, rfl⟩
        have HE := Lib.hid hxe
        clear hx hst hmm hgv
        go_wp2_with (fail)
        refine (Tryz.strings_Contains x ⟨#[61]⟩ m _ (by omega) (by exact HX.out.2.2)).mono ?_
        rintro e W3 ⟨rfl, rfl⟩
        rw [show Lib.contains x.data.toList (⟨#[61]⟩ : ByteArray).data.toList = xe from hxe.symm]
        clear hxe
        obtain ⟨ba, bc, rfl⟩ := own_slice HX.out.2.1.2.1
        obtain ⟨ca, cc, rfl⟩ := own_slice HX.out.2.1.2.2.1
        have hown2 := HX.out.2.1.2.1
        have hown3 := HX.out.2.1.2.2.1
        have hlb : (((waysL f).take k).filter fun x => !isEq x).length ≤ k := Nat.le_trans (List.length_filter_le _ _) (List.length_take_le _ _)
        have hlc : (((waysL f).take k).filter isEq).length ≤ k := Nat.le_trans (List.length_filter_le _ _) (List.length_take_le _ _)
        have hsz := HX.out.2.1.2.2.2.2.2.2.2.1.lt
        cases xe
        · have ex : Hid ((((waysL f).take (k + 1)).filter fun x => !isEq x) = (((waysL f).take k).filter fun x => !isEq x) ++ [x] ∧ ((waysL f).take (k + 1)).filter isEq = ((waysL f).take k).filter isEq) := Lib.hid ⟨filt_yes HX.out.1 (by rw [← HE.out]; rfl), filt_no HX.out.1 HE.out.symm⟩
          go_wp2_with (at_builtin; refine wpList_append_own_at _ rfl _ _ 52 rfl w.heap.size 9 i0 (.string ⟨#[]⟩) 1 16 Tryz.underlying52 hi hz0 hz1 hz2 rfl (by decide) _ _ _ rfl (hown2.alloc _) ⟨W3.heap.size, 0, none⟩ 1 1 [.string x] rfl rfl ?c1 ?c2 ?c3 ?c4 ?c5 ?_)
          case c1 => exact one_new rfl _ _
          case c2 => exact one_str _
          case c3 => unfold maxLen; omega
          case c4 => omega
          case c5 => simp; omega
          intro v' w2 hown' hgrow _ hat
          have K := Lib.hid (HX.out.2.1.app_b hown' hgrow hat)
          clear hown2 hown3 hown' hgrow hat hc
          go_wp2_with (fail)
          exact ⟨⟨k + 1, by omega, by go_num, by rw [ex.out.1, ex.out.2]; exact K.out⟩, by simp [intOf]; omega⟩
        · have ex : Hid ((((waysL f).take (k + 1)).filter fun x => !isEq x) = (((waysL f).take k).filter fun x => !isEq x) ∧ ((waysL f).take (k + 1)).filter isEq = ((waysL f).take k).filter isEq ++ [x]) := Lib.hid ⟨filt_no HX.out.1 (by rw [← HE.out]; rfl), filt_yes HX.out.1 HE.out.symm⟩
          go_wp2_with (at_builtin; refine wpList_append_own_at _ rfl _ _ 52 rfl w.heap.size 9 i0 (.string ⟨#[]⟩) 1 16 Tryz.underlying52 hi hz0 hz1 hz2 rfl (by decide) _ _ _ rfl (hown3.alloc _) ⟨W3.heap.size, 0, none⟩ 1 1 [.string x] rfl rfl ?d1 ?d2 ?d3 ?d4 ?d5 ?_)
          case d1 => exact one_new rfl _ _
          case d2 => exact one_str _
          case d3 => unfold maxLen; omega
          case d4 => omega
          case d5 => simp; omega
          intro v' w2 hown' hgrow _ hat
          have K := Lib.hid (HX.out.2.1.app_c hown' hgrow hat)
          clear hown2 hown3 hown' hgrow hat hc
          go_wp2_with (fail)
          exact ⟨⟨k + 1, by omega, by go_num, by rw [ex.out.1, ex.out.2]; exact K.out⟩, by simp [intOf]; omega⟩
      · obtain rfl : k = (waysL f).length := by omega
        rw [List.take_length, ways_before, ways_behind, show wayL f 6 = wayL f 6 ++ adL f 0 from (List.append_nil _).symm] at hst
        obtain ⟨bl, hbl⟩ : ∃ bl, bl = wayL f 6 ++ adL f 0 := ⟨_, rfl⟩
        obtain ⟨cl, hcl⟩ : ∃ cl, cl = skipL f ++ redL f := ⟨_, rfl⟩
        have hcl2 : cl.length ≤ 2 := by rw [hcl]; exact skip_len f
        rw [← hbl, ← hcl] at hst
        have HX := Lib.hid (And.intro hst hbl)
        have HCL := Lib.hid hcl
        have k6 := hst.2.2.2.2.2.2.2.1.cell' (i := 6) (v := .bool f.app) rfl
        have k7 := hst.2.2.2.2.2.2.2.1.cell' (i := 7) (v := .bool f.disc) rfl
        have hlt7 := hst.2.2.2.2.2.2.2.1.lt
        obtain ⟨ba, bc, rfl⟩ := own_slice hst.2.1
        obtain ⟨ca, cc, rfl⟩ := own_slice hst.2.2.1
        clear hst hmm hbl hcl
        go_wp2_with (fail)
        go_loopw [5, 40] (fun vb i wr => TxB f w.heap.size w cl (.slice va (waysL f).length vcap) (.slice ca cl.length cc) vb i wr) (fun _ i _ => 2 - (intOf i).toNat)
        case atStart => exact ⟨0, bl, by omega, rfl, HX.out.2, HX.out.1⟩
        case round =>
          clear HX k6 k7 hlt7
          obtain ⟨k, bl, hk, rfl, hbl, hst⟩ := hrel
          have hl9 : bl.length ≤ 8 := by
            have hlw := wayL_le f 6
            have hla := adL_len f k
            rw [hbl, List.length_append]; omega
          obtain ⟨ba2, bc2, rfl⟩ := own_slice hst.2.1
          by_cases hlt2 : k < 2
          · have hix := idx_ad f k hlt2
            have hsub := sub_ad k hlt2
            obtain ⟨b, hb2⟩ : ∃ b, b = ad2 f k := ⟨_, rfl⟩
            rw [← hb2] at hix
            have hsz := hst.2.2.2.2.2.2.2.1.lt
            have hown2 := hst.2.1
            have HX := Lib.hid (And.intro hst (And.intro hb2 hbl))
            clear hst hb2 hbl
            cases b
            · go_wp2_with (fail)
              exact ⟨⟨k + 1, bl, by omega, by go_num, by rw [adL_no HX.out.2.1.symm]; exact HX.out.2.2, HX.out.1⟩, by simp [intOf]; omega⟩
            · go_wp2_with (at_builtin; refine wpList_append_own_at _ rfl _ _ 52 rfl w.heap.size 9 i0 (.string ⟨#[]⟩) 1 16 Tryz.underlying52 hi hz0 hz1 hz2 rfl (by decide) _ _ _ rfl (hown2.alloc _) ⟨wr.heap.size, 0, none⟩ 1 1 [.string (letAD k)] rfl rfl ?e1 ?e2 ?e3 ?e4 ?e5 ?_)
              case e1 => exact one_new rfl _ _
              case e2 => exact one_str _
              case e3 => unfold maxLen; omega
              case e4 => omega
              case e5 => simp; omega
              intro v' w2 hown' hgrow _ hat
              have K := Lib.hid (HX.out.1.app_b hown' hgrow hat)
              clear hown2 hown' hgrow hat hix hsub
              go_wp2_with (fail)
              exact ⟨⟨k + 1, bl ++ [letAD k], by omega, by go_num, by rw [adL_yes HX.out.2.1.symm, ← List.append_assoc, HX.out.2.2], K.out⟩, by simp [intOf]; omega⟩
          · obtain rfl : k = 2 := by omega
            have hpl : bl ++ cl = partsL f := by rw [hbl, HCL.out]; rfl
            have HX := Lib.hid (And.intro hst hpl)
            have hown2 := hst.2.1
            have hown3 := hst.2.2.1
            have hvn := hst.2.2.2.2.2.2.1
            have hsz := hst.2.2.2.2.2.2.2.1.lt
            clear hst hpl hbl
            by_cases hcn : cl = []
            · subst hcn
              obtain ⟨rfl, rfl⟩ : ca = none ∧ cc = 0 := by have := hvn rfl; simpa using this
              have hpl : bl = partsL f := by rw [← HX.out.2, List.append_nil]
              have HQ := Lib.hid (And.intro hown2 (And.intro hpl HX.out.1.2.2.2.2.2.2.2.2))
              clear hvn hown3 hpl HX
              by_cases hb0 : bl.length = 0
              · have ht : Hid (ftxV f = ⟨#[]⟩) := Lib.hid (by unfold ftxV ftxF textL; rw [if_pos HZ.out.1, if_pos (by rw [← HQ.out.2.1]; exact List.eq_nil_of_length_eq_zero hb0)])
                have hb1 : ¬ (0 : Int) < (bl.length : Int) := by omega
                clear hb0
                go_wp2_with (at_builtin; refine wpList_append_own_none rfl _ _ 52 rfl w.heap.size 9 i0 1 Tryz.underlying52 hi _ _ _ rfl hown2 rfl ?_)
                go_ret2
                exact ⟨by rw [ht.out, HZ.out.1] <;> rfl, HQ.out.2.2⟩
              · obtain ⟨g, cap, hgv, hgN, hgl, hgc⟩ := own_form HQ.out.1 (by omega)
                obtain ⟨rfl, rfl⟩ : ba2 = some ⟨g, 0, none⟩ ∧ bc2 = cap := by simpa using hgv
                clear hgv
                have hb1 : (0 : Int) < (bl.length : Int) := by omega
                have HJ := Lib.hid (text_join HZ.out.1 HQ.out.1 HQ.out.2.1 (by omega) HQ.out.2.2)
                go_wp2_with (at_builtin; refine wpList_append_own_none rfl _ _ 52 rfl w.heap.size 9 i0 1 Tryz.underlying52 hi _ _ _ rfl hown2 rfl ?_)
                rw [HQ.out.2.1]
                have hpl := partsL_len f
                rw [HQ.out.2.1] at hgc
                refine (Tryz.strings_Join g 0 bc2 (partsL f) ⟨#[44]⟩ _ HJ.out.1 hgl (by omega) (by omega) (by have := HJ.out.2.1; exact Nat.le_trans this (by decide))).mono ?_
                rintro e W5 ⟨rfl, h5⟩
                have HB := Lib.hid (gr_call HJ.out.2.2.2 h5)
                obtain ⟨js, hjs⟩ : ∃ js, js = joinT (partsL f) := ⟨_, rfl⟩
                have hjz : js.size ≤ 1030 := by rw [hjs, ← size_data]; exact HJ.out.2.1
                have HJS := Lib.hid hjs
                rw [show (⟨(Lib.join ((partsL f).map (·.data.toList)) (⟨#[44]⟩ : ByteArray).data.toList).toArray⟩ : ByteArray) = js from hjs.symm]
                clear hjs h5
                go_wp2_with (fail)
                go_ret2
                exact ⟨by rw [HJ.out.2.2.1, HZ.out.1, ← HJS.out] <;> rfl, HB.out⟩
            · have hcp : 0 < cl.length := List.length_pos_iff.2 hcn
              obtain ⟨g, cap, hgv, hgN, hgl, hgc⟩ := own_form hown3 hcp
              obtain ⟨rfl, rfl⟩ : ca = some ⟨g, 0, none⟩ ∧ cc = cap := by simpa using hgv
              have hcl3 := hown3.cells (g := g) rfl
              have HC3 := Lib.hid hcl3
              clear hgv hvn hown3 hcn hcl3
              go_wp2_with (at_builtin; refine wpList_append_own _ rfl _ _ 52 rfl w.heap.size 9 i0 (.string ⟨#[]⟩) 1 16 Tryz.underlying52 hi hz0 hz1 hz2 rfl (by decide) _ _ _ rfl hown2 ⟨g, 0, none⟩ cl.length cc (cl.map .string) rfl (by simp) ?h1 ?h2 ?h3 ?h4 ?h5 ?_)
              case h1 => exact HC3.out
              case h2 => intro u hu; obtain ⟨q, _, rfl⟩ := List.mem_map.1 hu; rfl
              case h3 => unfold maxLen; omega
              case h4 => omega
              case h5 => omega
              intro v' w2 hown' hgrow _
              have hpl : bl ++ cl = partsL f := HX.out.2
              have hown5 : w2.ownsRow w.heap.size 9 1 v' (partsL f).length ((partsL f).map .string) := by
                rw [← hpl, List.length_append, List.map_append]; exact hown'
              have hbel5 := HX.out.1.2.2.2.2.2.2.2.2.grown hgrow (Nat.le_of_lt hsz) (fun k hk => (hown2.lt k hk).1)
              have hlen5 : (partsL f).length = bl.length + cl.length := by rw [← hpl, List.length_append]
              have HQ := Lib.hid (And.intro hown5 hbel5)
              have hpp : 0 < (partsL f).length := by omega
              have hb1 : (0 : Int) < ((partsL f).length : Int) := by omega
              obtain ⟨g, cap, hgv, hgN, hgl, hgc⟩ := own_form hown5 hpp
              subst hgv
              have HJ := Lib.hid (text_join HZ.out.1 HQ.out.1 rfl hpp HQ.out.2)
              have hpl2 := partsL_len f
              clear hpl hown5 hbel5 hlen5 hown' hgrow hown2
              go_wp2_with (fail)
              refine (Tryz.strings_Join g 0 cap (partsL f) ⟨#[44]⟩ _ HJ.out.1 hgl (by omega) (by omega) (by have := HJ.out.2.1; exact Nat.le_trans this (by decide))).mono ?_
              rintro e W5 ⟨rfl, h5⟩
              have HB := Lib.hid (gr_call HJ.out.2.2.2 h5)
              obtain ⟨js, hjs⟩ : ∃ js, js = joinT (partsL f) := ⟨_, rfl⟩
              have hjz : js.size ≤ 1030 := by rw [hjs, ← size_data]; exact HJ.out.2.1
              have HJS := Lib.hid hjs
              rw [show (⟨(Lib.join ((partsL f).map (·.data.toList)) (⟨#[44]⟩ : ByteArray).data.toList).toArray⟩ : ByteArray) = js from hjs.symm]
              clear hjs h5
              go_wp2_with (fail)
              go_ret2
              exact ⟨by rw [HJ.out.2.2.1, HZ.out.1, ← HJS.out] <;> rfl, HB.out⟩
  · have q : (ce != 0) = true := by simp; exact hc0
    have ht : Hid (ftxV f = ⟨#[]⟩) := Lib.hid (by unfold ftxV; rw [if_neg (by rw [← HC.out]; exact hc0)])
    clear hc0
    go_wp2_with (fail)
    go_ret2
    exact ⟨by rw [ht.out, ← HC.out] <;> rfl, H1.out.2⟩
end Go.Proofs.YthpcbaamkeiffaaGreatDoor
namespace Go.Proofs.YthpcbaamkeiffaaGreatDoor
set_option linter.unusedVariables false
set_option linter.unusedSimpArgs false

/-! Names. -/
def sCap : ByteArray := ⟨#[99, 97, 112]⟩
def sLimit : ByteArray := ⟨#[108, 105, 109, 105, 116]⟩
def sDir : ByteArray := ⟨#[100, 105, 114]⟩
def sIf : ByteArray := ⟨#[105, 102]⟩
def sRule : ByteArray := ⟨#[114, 117, 108, 101]⟩
def sRoute : ByteArray := ⟨#[114, 111, 117, 116, 101]⟩
def sNot : ByteArray := ⟨#[110, 111, 116]⟩
def sNocase : ByteArray := ⟨#[110, 111, 99, 97, 115, 101]⟩
def sOr : ByteArray := ⟨#[111, 114]⟩
def namesL : List ByteArray := [sCap, sLimit, sDir, sIf, sRule, sRoute]
def modesL : List ByteArray := [⟨#[97, 108, 111, 110, 101]⟩, ⟨#[98, 101, 102, 111, 114, 101]⟩, ⟨#[97, 102, 116, 101, 114]⟩]
def kindsL : List ByteArray := [⟨#[102, 105, 120, 101, 100]⟩, ⟨#[101, 99, 104, 111]⟩, ⟨#[102, 105, 108, 101]⟩, ⟨#[98, 111, 100, 121]⟩]
def condL : List ByteArray := [sNot, sNocase, sOr]
def ruleL : List ByteArray := [sNocase]

/-! Which configurations can be written. -/
def badSeg (s : ByteArray) : Bool := decide (s.size = 0) || decide ((47 : UInt8) ∈ s.data.toList)
def chkRus : List Ru → Int
  | [] => 0
  | r :: rs => if chkF r.fl = 0 then chkRus rs else chkF r.fl
def chkDrs : List Dr → Int
  | [] => 0
  | d :: ds => if d.mode < 0 ∨ 2 < d.mode then 10 else if chkRus d.rus = 0 then chkDrs ds else chkRus d.rus
def chkRos : List Ro → Int
  | [] => 0
  | r :: rs => if r.kind < 1 ∨ 4 < r.kind then 10 else if r.seg.any badSeg then 3 else chkRos rs
def badCap (c : Cf) : Bool := decide (c.cap < 0) || decide (1000000 < c.cap) || decide (c.lim < 0) || decide (1000000 < c.lim)
def checkP (c : Cf) : Int := if badCap c then 2 else if chkDrs c.dirs = 0 then chkRos c.ros else chkDrs c.dirs

/-! The rows of a configuration. -/
def rowW (l : List ByteArray) : Rw := ⟨0, l.map fun t => ⟨0, t, false⟩⟩
def itoaT (n : Int) : ByteArray := ⟨(Lib.itoa n).toArray⟩
def optB (b : Bool) (s : ByteArray) : List ByteArray := if b then [s] else []
def slashB : ByteArray := ⟨#[47]⟩
def pathB (l : List ByteArray) : ByteArray := if l = [] then slashB else slashB ++ ⟨(Lib.join (l.map (·.data.toList)) [47]).toArray⟩
def condRow (x : Cd) : Rw := rowW ([sIf, x.t, x.p] ++ optB x.no sNot ++ optB x.nc sNocase ++ optB x.orr sOr)
def ruleRow (r : Ru) : Rw := rowW ([sRule, r.p, r.tg] ++ optB r.nc sNocase ++ optB (!decide ((ftxV r.fl).size = 0)) (ftxV r.fl))
def ruRows (r : Ru) : List Rw := r.cds.map condRow ++ [ruleRow r]
def drRows (d : Dr) : List Rw := rowW [sDir, d.path, modesL.getD d.mode.toNat ⟨#[]⟩] :: d.rus.flatMap ruRows
def roRow (r : Ro) : Rw := rowW [sRoute, pathB r.seg, kindsL.getD (r.kind - 1).toNat ⟨#[]⟩, r.txt]
def cfRows (c : Cf) : List Rw := [rowW [sCap, itoaT c.cap], rowW [sLimit, itoaT c.lim]] ++ c.dirs.flatMap drRows ++ c.ros.map roRow
/-- The text of a configuration, or nothing; an error. -/
def cfText (c : Cf) : Option (List UInt8) × Int := if checkP c = 0 then textF (txR (cfRows c)) [] else (none, checkP c)

/-! Segments of a path. -/
def segsP (s : ByteArray) : Option (List ByteArray) :=
  if s.data.toList = [47] then some []
  else match s.data.toList with
    | c :: t => if c = 47 ∧ (splitL 47 t).all (fun p => decide (p ≠ [])) = true then some ((splitL 47 t).map mkB) else none
    | [] => none

/-! What a text says. -/
structure Rd where
  c : Cf
  cds : List Cd
  pl : List Int
def zeroRd : Rd := ⟨zeroCf, [], []⟩
def wdN (x : Rw) (i : Nat) : Wd := x.w.getD i ⟨0, ⟨#[]⟩, false⟩
/-- A row may stand where it does: n rows are before it, the last of them begins with last. -/
def standsP (n : Nat) (last word : ByteArray) (c : Cf) : Bool :=
  if n = 0 ∨ word = sCap then decide (n = 0 ∧ word = sCap)
  else if n = 1 ∨ word = sLimit then decide (n = 1 ∧ word = sLimit)
  else if word = sIf ∨ word = sRule then decide (c.dirs.length ≠ 0 ∧ c.ros.length = 0)
  else if last = sIf then false
  else decide (word = sRoute) || decide (c.ros.length = 0)
def isBr (s : ByteArray) : Bool := decide (s.data.toList.head? = some 91)
/-- Options; flags behind them. -/
def optsP (nm : List ByteArray) (fl : Bool) : List Wd → List Bool → Nat → Bool → Flg → Option (List Bool × Flg) × Int × Int
  | [], set, _, _, f => (some (set, f), 0, 0)
  | w :: ws, set, nx, had, f =>
    if fl = true ∧ isBr w.t = true then
      if had = true then (none, 8, w.a)
      else if (parseS w.t).2.1 = 0 then optsP nm fl ws set nx true (parseS w.t).1
      else (none, (parseS w.t).2.1, w.a + if w.q then 0 else ((parseS w.t).2.2 : Int))
    else if Lib.idxOfS nm w.t < 0 then (none, 11, w.a)
    else if (Lib.idxOfS nm w.t).toNat < nx ∨ had = true then (none, 8, w.a)
    else optsP nm fl ws (set.set (Lib.idxOfS nm w.t).toNat true) ((Lib.idxOfS nm w.t).toNat + 1) had f
def lowN (k : Nat) : Nat := [2, 2, 3, 3, 3, 4].getD k 0
def highN (k : Nat) : Nat := [2, 2, 3, 6, 5, 4].getD k 0
def numW (w : Wd) : Option Int × Int × Int := if (numR w.t.data.toList 0 1000000).2 = 0 then (some (numR w.t.data.toList 0 1000000).1, 0, 0) else (none, (numR w.t.data.toList 0 1000000).2, w.a)
def addRu (l : List Dr) (r : Ru) : List Dr := l.set (l.length - 1) { l.getD (l.length - 1) ⟨⟨#[]⟩, 0, []⟩ with rus := (l.getD (l.length - 1) ⟨⟨#[]⟩, 0, []⟩).rus ++ [r] }
/-- What a row of kind k says. -/
def readP (k : Nat) (s : Rd) (x : Rw) : Option Rd × Int × Int := match k with
  | 0 => match numW (wdN x 1) with
    | (some n, _) => (some { s with c := { s.c with cap := n } }, 0, 0)
    | (none, e) => (none, e)
  | 1 => match numW (wdN x 1) with
    | (some n, _) => (some { s with c := { s.c with lim := n } }, 0, 0)
    | (none, e) => (none, e)
  | 2 => if Lib.idxOfS modesL (wdN x 2).t < 0 then (none, 11, (wdN x 2).a)
    else (some { s with c := { s.c with dirs := s.c.dirs ++ [⟨(wdN x 1).t, Lib.idxOfS modesL (wdN x 2).t, []⟩] } }, 0, 0)
  | 3 => match optsP condL false (x.w.drop 3) [false, false, false] 0 false zeroF with
    | (some (set, _), _) => (some { s with cds := s.cds ++ [⟨(wdN x 1).t, set.getD 0 false, (wdN x 2).t, set.getD 1 false, set.getD 2 false⟩] }, 0, 0)
    | (none, e) => (none, e)
  | 4 => match optsP ruleL true (x.w.drop 3) [false] 0 false zeroF with
    | (some (set, f), _) => (some ⟨{ s.c with dirs := addRu s.c.dirs ⟨(wdN x 1).t, set.getD 0 false, s.cds, (wdN x 2).t, f⟩ }, [], s.pl ++ [x.a]⟩, 0, 0)
    | (none, e) => (none, e)
  | _ => match segsP (wdN x 1).t with
    | none => (none, 3, (wdN x 1).a)
    | some l => if Lib.idxOfS kindsL (wdN x 2).t < 0 then (none, 11, (wdN x 2).a)
      else (some { s with c := { s.c with ros := s.c.ros ++ [⟨l, Lib.idxOfS kindsL (wdN x 2).t + 1, (wdN x 3).t⟩] } }, 0, 0)
def kindP (x : Rw) : Int := Lib.idxOfS namesL (wdN x 0).t
def rowP (n : Nat) (last : ByteArray) (s : Rd) (x : Rw) : Option Rd × Int × Int :=
  if kindP x < 0 ∨ (wdN x 0).q = true then (none, 11, x.a)
  else if standsP n last (wdN x 0).t s.c = false then (none, 8, x.a)
  else if x.w.length < lowN (kindP x).toNat ∨ highN (kindP x).toNat < x.w.length then (none, 3, x.a)
  else readP (kindP x).toNat s x
/-- What is left of the rows says; size is the text's. -/
def runRd (size : Nat) : List Rw → Nat → ByteArray → Rd → Option Rd × Int × Int
  | [], n, last, s => if n < 2 ∨ last = sIf then (none, 8, (size : Int)) else (some s, 0, 0)
  | x :: xs, n, last, s => match rowP n last s x with
    | (some s', _) => runRd size xs (n + 1) (wdN x 0).t s'
    | (none, e) => (none, e)
def wholeRd (t : ByteArray) : Option Rd × Int × Int := match rowsR t.data.toList with
  | (some rs, _) => runRd t.size rs 0 ⟨#[]⟩ zeroRd
  | (none, e) => (none, e)
end Go.Proofs.YthpcbaamkeiffaaGreatDoor
namespace Go.Proofs.YthpcbaamkeiffaaGreatDoor
open Go.RowKit Go.Shelf
set_option linter.unusedVariables false
set_option linter.unusedSimpArgs false

/-- A row that is made: block g is the row; its words are in memory that was made behind B. -/
def WdSt (B g : Nat) (W : World) (ts : List ByteArray) (v : Value) : Prop :=
  Blk W g 77 #[.int .i64 0, v] ∧ W.ownsRow B 116 3 v ts.length (wdsC (rowW ts).w)
theorem rowW_snoc (ts : List ByteArray) (t : ByteArray) : (rowW (ts ++ [t])).w = (rowW ts).w ++ [⟨0, t, false⟩] := by simp [rowW]
theorem rowW_len (ts : List ByteArray) : (rowW ts).w.length = ts.length := by simp [rowW]
theorem WdSt.below {B g : Nat} {W W' : World} {ts : List ByteArray} {v : Value} (h : WdSt B g W ts v) (hb : Below W.heap.size W W') : WdSt B g W' ts v := ⟨h.1.call hb, own_below h.2 hb (Nat.le_refl _)⟩

attribute [-go_sem] Builtin.append_
set_option maxRecDepth 100000 in
set_option maxHeartbeats 1000000 in
theorem add_code (s : ByteArray) (B g : Nat) (ts : List ByteArray) (v : Value) (w : World) (hl : ts.length ≤ 1000000) (hB : B ≤ w.heap.size) (hgB : B ≤ g) (h : WdSt B g w ts v) :
    Calls Tryz.prog 67 #[.string s, .pointer (some ⟨g, 0, none⟩)] w fun e W => e = .returned (.tuple #[]) ∧ (∃ v', WdSt B g W (ts ++ [s]) v') ∧ Below B w W ∧ (∀ k t cs, Blk w k t cs → k ≠ g → t ≠ 116 → Blk W k t cs) := by
  obtain ⟨hg, ho⟩ := h
  obtain ⟨i1, hi1, hz10, hz11, hz12⟩ := info_parts infoWord
  obtain ⟨va, vc, rfl⟩ := own_slice ho
  have c1 : w.cell? ⟨g, 1, none⟩ = some (.slice va ts.length vc) := hg.cell' (i := 1) rfl
  have f1 := hg.frozen 1
  have hlt := hg.lt
  have hb := gr_alloc (Below.refl w.heap.size w) (.cells #[.int .i64 0, .string s, .bool false] 116)
  have hnB : Blk (w.alloc (.cells #[.int .i64 0, .string s, .bool false] 116)) w.heap.size 116 #[.int .i64 0, .string s, .bool false] := Blk.new _ _ _
  have ho2 := own_below ho hb (Nat.le_refl _)
  obtain ⟨v', X2, hr, hown, hgr, _⟩ := run_append_own (P := Tryz.prog) _ B 75 75 116 i1 _ 3 32 Tryz.underlying75 hi1 hz10 hz11 hz12 rfl (by decide) (.slice va ts.length vc) ts.length _ ho2
    ⟨w.heap.size, 0, none⟩ 1 1 [.int .i64 0, .string s, .bool false] rfl (by
      intro j u hj
      rw [Addr.add_lit, Nat.zero_add]
      exact hnB.cell' (by simpa using hj)) (by
      intro u hu
      simp at hu
      rcases hu with rfl | rfl | rfl <;> rfl) (by unfold maxLen; omega) (by omega) (Nat.le_trans hB hb.size)
  obtain ⟨x1, x2, rfl⟩ := own_slice hown
  have hgX : Blk X2 g 77 #[.int .i64 0, .slice va ts.length vc] := (hg.call hb).grown hgr (own_blk_ne ho2 (hg.call hb) (by decide))
  have y1 : X2.cell? ⟨g, 1, none⟩ = some (.slice va ts.length vc) := hgX.cell' (i := 1) rfl
  have y2 := hgX.frozen 1
  have y3 := hgX.lt
  have hw2 : wdsC (rowW (ts ++ [s])).w = wdsC (rowW ts).w ++ [.int .i64 0, .string s, .bool false] := by rw [rowW_snoc, wdsC_snoc]; rfl
  have hfin : ∀ V, V = X2.setCell ⟨g, 1, none⟩ (.slice x1 (ts.length + 1) x2) → (∃ v', WdSt B g V (ts ++ [s]) v') ∧ Below B w V ∧ (∀ k t cs, Blk w k t cs → k ≠ g → t ≠ 116 → Blk V k t cs) := by
    rintro V rfl
    refine ⟨⟨.slice x1 (ts.length + 1) x2, hgX.set_ 1 _, ?_⟩, ?_, ?_⟩
    · have := own_setCell hown hgX (by decide) (i := 1) (.slice x1 (ts.length + 1) x2)
      rw [hw2, List.length_append]
      exact this
    · exact ((hb.mono hB).grown hgr (Nat.le_trans hB hb.size) (fun k hk => (ho2.lt k hk).1)).setCell hgB _
    · intro k t cs hk hne ht
      exact ((hk.call hb).grown hgr (own_blk_ne ho2 (hk.call hb) (Ne.symm ht))).far hne _
  clear hg ho ho2 hown hgr hnB hb hgX hw2
  go_enter Tryz.func67, Tryz.ntmps67
  go_wp2_with (fail)
  refine bodyPost_end (v := .tuple #[]) (by simp [results, Tryz.results67, go_sem]) rfl ⟨rfl, hfin _ rfl⟩

/-! What a type switch finds. -/
@[go_sem] theorem as_ss (v : Value) (w : World) : (Instr.typeAssert (.iface 9 v) 20 9 true).run Tryz.prog w = .ok (.tuple #[v, .bool true]) w := by kernel_rfl
@[go_sem] theorem as_ns (v : Value) (w : World) : (Instr.typeAssert (.iface 3 v) 20 9 true).run Tryz.prog w = .ok (.tuple #[.string ⟨#[]⟩, .bool false]) w := by kernel_rfl
@[go_sem] theorem as_nn (v : Value) (w : World) : (Instr.typeAssert (.iface 3 v) 20 3 true).run Tryz.prog w = .ok (.tuple #[v, .bool true]) w := by kernel_rfl
@[go_sem] theorem as_os (v : Value) (w : World) : (Instr.typeAssert (.iface 82 v) 20 9 true).run Tryz.prog w = .ok (.tuple #[.string ⟨#[]⟩, .bool false]) w := by kernel_rfl
@[go_sem] theorem as_on (v : Value) (w : World) : (Instr.typeAssert (.iface 82 v) 20 3 true).run Tryz.prog w = .ok (.tuple #[.int .i64 0, .bool false]) w := by kernel_rfl
@[go_sem] theorem as_oo (v : Value) (w : World) : (Instr.typeAssert (.iface 82 v) 20 82 true).run Tryz.prog w = .ok (.tuple #[v, .bool true]) w := by kernel_rfl

/-! What a row is made of. -/
inductive Arg where
  | s (x : ByteArray)
  | n (x : Int)
  | o (b : Bool) (x : ByteArray)
def argV : Arg → Value
  | .s x => .iface 9 (.string x)
  | .n x => .iface 3 (.int .i64 x)
  | .o b x => .iface 82 (.agg #[.bool b, .string x])
def argT : Arg → List ByteArray
  | .s x => [x]
  | .n x => [itoaT x]
  | .o b x => optB b x
def argOk : Arg → Prop
  | .n x => -9223372036854775808 ≤ x ∧ x ≤ 9223372036854775807
  | _ => True
theorem argT_len (a : Arg) : (argT a).length ≤ 1 := by
  cases a with
  | s x => exact Nat.le_refl _
  | n x => exact Nat.le_refl _
  | o b x => cases b <;> simp [argT, optB]
theorem args_len : ∀ l : List Arg, (l.flatMap argT).length ≤ l.length
  | [] => Nat.le_refl _
  | a :: l => by
    have h1 := args_len l
    have h2 := argT_len a
    rw [List.flatMap_cons, List.length_append, List.length_cons]; omega
theorem args_snoc {l : List Arg} {k : Nat} {a : Arg} (h : l[k]? = some a) : (l.take (k + 1)).flatMap argT = (l.take k).flatMap argT ++ argT a := by
  rw [List.take_add_one, h, List.flatMap_append]; simp
set_option maxRecDepth 100000 in
set_option maxHeartbeats 2000000 in
theorem words_code (l : List Arg) (L : List ByteArray) (hL : L = l.flatMap argT) (hl : l.length ≤ 1000) (hok : ∀ a ∈ l, argOk a) (b : Nat) (T : TypeId) (c : Nat) (w : World) (hT : Tabs w) (hb : Blk w b T (l.map argV).toArray) :
    Calls Tryz.prog 35 #[.slice (some ⟨b, 0, none⟩) l.length c] w fun e W => (∃ v, e = .returned (.agg #[.int .i64 0, v]) ∧ W.ownsRow w.heap.size 116 3 v L.length (wdsC (rowW L).w)) ∧ Below w.heap.size w W := by
  obtain ⟨n, hn⟩ : ∃ n, n = l.length := ⟨_, rfl⟩
  have HA := Lib.hid (And.intro hn (And.intro hok (And.intro hT (And.intro hb hL))))
  rw [← hn] at hl ⊢
  clear hok hT hb hn hL
  have g0 : Blk ((w.alloc (.cells #[.int .i64 0, .slice none 0 0] 77)).alloc (.cells #[.int .i64 0, .slice none 0 0] 77)) (w.heap.size + 1) 77 #[.int .i64 0, .slice none 0 0] := by
    have := Blk.new (w.alloc (.cells #[.int .i64 0, .slice none 0 0] 77)) 77 #[.int .i64 0, .slice none 0 0]
    simpa using this
  have g1 : Blk ((w.alloc (.cells #[.int .i64 0, .slice none 0 0] 77)).alloc (.cells #[.int .i64 0, .slice none 0 0] 77)) w.heap.size 77 #[.int .i64 0, .slice none 0 0] := (Blk.new _ _ _).alloc _
  have g2 := gr_alloc (gr_alloc (Below.refl w.heap.size w) (.cells #[.int .i64 0, .slice none 0 0] 77)) (.cells #[.int .i64 0, .slice none 0 0] 77)
  have G := Lib.hid (And.intro g0 (And.intro g1 g2))
  clear g0 g1 g2
  go_enter Tryz.func35, Tryz.ntmps35
  go_wp2_with (fail)
  go_loopw [13] (fun iv wr => ∃ (k : Nat) (v : Value), k ≤ n ∧ iv = .int .i64 (k : Int) ∧ WdSt w.heap.size (w.heap.size + 1) wr ((l.take k).flatMap argT) v ∧ Blk wr w.heap.size 77 #[.int .i64 0, .slice none 0 0] ∧ Below w.heap.size w wr) (fun iv _ => n - (intOf iv).toNat)
  case atStart => exact ⟨0, _, Nat.zero_le _, rfl, ⟨G.out.1, World.ownsRow_nil _ _ _ _⟩, G.out.2.1, G.out.2.2⟩
  case round =>
    obtain ⟨k, v, hk, rfl, hst, hr0, hbel⟩ := hrel
    by_cases hlt : k < n
    · have hii : (k : Int) < n := by omega
      obtain ⟨a, ha⟩ : ∃ a, l[k]? = some a := ⟨_, List.getElem?_eq_getElem (by rw [← HA.out.1]; exact hlt)⟩
      have hbw := HA.out.2.2.2.1.below hbel HA.out.2.2.2.1.lt
      have hc : wr.cell? ⟨b, k, none⟩ = some (argV a) := hbw.cell' (by simp [ha])
      have hbl := hbw.lt
      have hlen : ((l.take k).flatMap argT).length ≤ 1000000 := by have h1 := args_len (l.take k); have h2 := List.length_take_le k l; omega
      have hsz := hbel.size
      have ha2 := HA.out.2.1 a (List.mem_of_getElem? ha)
      have hsn := args_snoc ha
      have hTw := HA.out.2.2.1.below hbel (Nat.le_refl _)
      have H := Lib.hid (And.intro hst (And.intro hr0 (And.intro hbel (And.intro ha2 (And.intro hsn hTw)))))
      clear hst hr0 hbel ha ha2 hsn hTw hbw
      cases a with
      | s x =>
        replace hc : wr.cell? ⟨b, k, none⟩ = some (.iface 9 (.string x)) := hc
        go_wp2_with (fail)
        refine (add_code x w.heap.size (w.heap.size + 1) _ v wr hlen hsz (by omega) H.out.1).mono ?_
        rintro e W ⟨rfl, ⟨v', hst'⟩, hb', hk'⟩
        have Y := Lib.hid (And.intro hst' (And.intro hb' hk'))
        clear hst' hb' hk'
        go_wp2_with (fail)
        go_round
        case measure => show n - (k + 1) < n - k; omega
        case rel =>
          refine ⟨k + 1, v', by omega, rfl, ?_, Y.out.2.2 _ _ _ H.out.2.1 (by omega) (by decide), H.out.2.2.1.trans Y.out.2.1⟩
          rw [H.out.2.2.2.2.1]
          exact Y.out.1
      | n x =>
        replace hc : wr.cell? ⟨b, k, none⟩ = some (.iface 3 (.int .i64 x)) := hc
        obtain ⟨x0, x1⟩ : -9223372036854775808 ≤ x ∧ x ≤ 9223372036854775807 := H.out.2.2.2.1
        go_wp2_with (fail)
        refine (itoaB x x0 x1 wr H.out.2.2.2.2.2).mono ?_
        rintro e W1 ⟨rfl, hb1⟩
        have hs1 := hb1.size
        have Z := Lib.hid hb1
        clear hb1
        go_wp2_with (fail)
        refine (add_code (itoaT x) w.heap.size (w.heap.size + 1) _ v W1 hlen (by omega) (by omega) (H.out.1.below Z.out)).mono ?_
        rintro e W ⟨rfl, ⟨v', hst'⟩, hb', hk'⟩
        have Y := Lib.hid (And.intro hst' (And.intro hb' hk'))
        clear hst' hb' hk'
        go_wp2_with (fail)
        go_round
        case measure => show n - (k + 1) < n - k; omega
        case rel =>
          refine ⟨k + 1, v', by omega, rfl, ?_, Y.out.2.2 _ _ _ (H.out.2.1.call Z.out) (by omega) (by decide), (gr_call H.out.2.2.1 Z.out).trans Y.out.2.1⟩
          rw [H.out.2.2.2.2.1]
          exact Y.out.1
      | o q x =>
        replace hc : wr.cell? ⟨b, k, none⟩ = some (.iface 82 (.agg #[.bool q, .string x])) := hc
        cases q with
        | false =>
          go_wp2_with (fail)
          go_round
          case measure => show n - (k + 1) < n - k; omega
          case rel =>
            have hwo : Below wr.heap.size wr (wr.alloc (.cells #[.bool false, .string x] 82)) := gr_alloc (Below.refl _ _) _
            refine ⟨k + 1, v, by omega, rfl, ?_, H.out.2.1.call hwo, gr_call H.out.2.2.1 hwo⟩
            rw [H.out.2.2.2.2.1, show argT (.o false x) = [] from rfl, List.append_nil]
            exact H.out.1.below hwo
        | true =>
          have hwo : Below wr.heap.size wr (wr.alloc (.cells #[.bool true, .string x] 82)) := gr_alloc (Below.refl _ _) _
          have hws := hwo.size
          have WO := Lib.hid hwo
          clear hwo
          go_wp2_with (fail)
          refine (add_code x w.heap.size (w.heap.size + 1) _ v _ hlen (by omega) (by omega) (H.out.1.below WO.out)).mono ?_
          rintro e W ⟨rfl, ⟨v', hst'⟩, hb', hk'⟩
          have Y := Lib.hid (And.intro hst' (And.intro hb' hk'))
          clear hst' hb' hk'
          go_wp2_with (fail)
          go_round
          case measure => show n - (k + 1) < n - k; omega
          case rel =>
            refine ⟨k + 1, v', by omega, rfl, ?_, Y.out.2.2 _ _ _ (H.out.2.1.call WO.out) (by omega) (by decide), (gr_call H.out.2.2.1 WO.out).trans Y.out.2.1⟩
            rw [H.out.2.2.2.2.1]
            exact Y.out.1
    · have hke : k = n := by omega
      have ht : l.take k = l := List.take_of_length_le (by rw [← HA.out.1]; omega)
      rw [ht, ← HA.out.2.2.2.2] at hst
      obtain ⟨va, vc, rfl⟩ := own_slice hst.2
      have c0 : wr.cell? ⟨w.heap.size + 1, 0, none⟩ = some (.int .i64 0) := hst.1.cell' (i := 0) rfl
      have c1 : wr.cell? ⟨w.heap.size + 1, 1, none⟩ = some (.slice va L.length vc) := hst.1.cell' (i := 1) rfl
      have d0 := hr0.frozen 0
      have d1 := hr0.frozen 1
      have d2 := hr0.lt
      have d3 := hr0.cell' (i := 0) rfl
      have d4 := hr0.cell' (i := 1) rfl
      have hii : ¬ (k : Int) < n := by omega
      have H := Lib.hid (And.intro hst (And.intro hr0 hbel))
      clear hst hr0 hbel ht
      go_wp2_with (fail)
      have e0 := (H.out.2.1.set_ 0 (.int .i64 0)).set_ 1 (.slice va L.length vc)
      have e1 := (own_setCell H.out.1.2 H.out.2.1 (by decide) (i := 0) (.int .i64 0))
      have e2 := own_setCell e1 (H.out.2.1.set_ 0 (.int .i64 0)) (by decide) (i := 1) (.slice va L.length vc)
      have e3 := (H.out.2.2.setCell (p := ⟨w.heap.size, 0, none⟩) (Nat.le_refl _) (.int .i64 0)).setCell (p := ⟨w.heap.size, 1, none⟩) (Nat.le_refl _) (.slice va L.length vc)
      generalize (wr.setCell ⟨w.heap.size, 0, none⟩ (.int .i64 0)).setCell ⟨w.heap.size, 1, none⟩ (.slice va L.length vc) = Z at e0 e2 e3 ⊢
      have r0 : Z.cell? ⟨w.heap.size, 0, none⟩ = some (.int .i64 0) := e0.cell' (i := 0) rfl
      have r1 : Z.cell? ⟨w.heap.size, 1, none⟩ = some (.slice va L.length vc) := e0.cell' (i := 1) rfl
      refine bodyPost_ret (v := .agg #[.int .i64 0, .slice va L.length vc]) (by simp [results, Tryz.results35, go_sem, r0, r1]) rfl ⟨⟨_, rfl, e2⟩, e3⟩
end Go.Proofs.YthpcbaamkeiffaaGreatDoor
