/-
  flag.Text, walked; conditions: the two tables lie as they are laid, a variable of the library is an int.
-/
import Derived.Test.YtlipjagdlpkjpaaDoorFtP
import Derived.Test.YtlipjagdlpkjpaaDoorFtH
import Derived.Test.YtlipjagdlpkjpaaDoorFlgC
import Derived.Maps.AppendAt
import Derived.Laws.AppendOwnNone
namespace Go.Proofs.YtlipjagdlpkjpaaDoor
open Go.RowKit
set_option linter.unusedVariables false
set_option linter.unusedSimpArgs false

/-- Two rows do not share a block. -/
def RowsApart (a b : Value) : Prop := ∀ k, a.ownBlock = some k → b.ownBlock ≠ some k
theorem RowsApart.symm {a b : Value} (h : RowsApart a b) : RowsApart b a := fun k hb ha => h k ha hb
theorem RowsApart.keep {a b : Value} (h : RowsApart a b) : a.ownBlock = none ∨ a.ownBlock ≠ b.ownBlock := by
  cases ha : a.ownBlock with
  | none => exact .inl rfl
  | some k => exact .inr fun e => h k ha e.symm
theorem RowsApart.step {a b b' : Value} {n : Nat} (h : RowsApart a b) (hl : ∀ k, a.ownBlock = some k → k < n) (h' : b'.ownBlock = b.ownBlock ∨ b'.ownBlock = some n) : RowsApart a b' := fun k ha hb => by
  rcases h' with e | e
  · exact h k ha (e.symm.trans hb)
  · have := hl k ha
    rw [hb] at e
    have := Option.some.inj e
    omega
theorem own_form {w : World} {base size n : Nat} {e : TypeId} {v : Value} {xs : List Value} (h : w.ownsRow base e size v n xs) (hn : 0 < n) : ∃ g cap, v = .slice (some ⟨g, 0, none⟩) n cap ∧ base ≤ g ∧ g < w.heap.size ∧ n ≤ cap := by
  rcases h.2 with ⟨_, h0⟩ | ⟨g, cap, cur, hv, hb, hh, hc, _⟩
  · omega
  · exact ⟨g, cap, hv, hb, (Array.getElem?_eq_some_iff.1 hh).1, hc⟩
/-- The flags' box and three rows of strings of the call's own. -/
def TxSt (f : Flg) (N : Nat) (w : World) (xs b c : List ByteArray) (v vb vc : Value) (wr : World) : Prop :=
  wr.ownsRow N 9 1 v xs.length (xs.map .string) ∧ wr.ownsRow N 9 1 vb b.length (b.map .string) ∧ wr.ownsRow N 9 1 vc c.length (c.map .string) ∧
  RowsApart v vb ∧ RowsApart v vc ∧ RowsApart vb vc ∧ (c = [] → vc = .slice none 0 0) ∧ Blk wr N 24 #[Value.bool f.last, .bool f.next, .bool f.chain, .bool f.fin, .bool f.forb, .bool f.gone, .bool f.app, .bool f.disc, .int .i64 f.skip, .int .i64 f.red] ∧ Below N w wr
section
variable {f : Flg} {N : Nat} {w wr w2 : World} {xs b c : List ByteArray} {v vb vc v' : Value} {x : ByteArray}
theorem TxSt.app_b (h : TxSt f N w xs b c v vb vc wr) (hown : w2.ownsRow N 9 1 v' (b.length + 1) (b.map .string ++ [.string x])) (hg : (wr.alloc (.cells #[.string x] 9)).grownBy w2 vb.ownBlock)
    (hat : v'.ownBlock = vb.ownBlock ∨ v'.ownBlock = some (wr.heap.size + 1)) : TxSt f N w xs (b ++ [x]) c v v' vc w2 := by
  rw [← World.size_alloc wr (.cells #[.string x] 9)] at hat
  obtain ⟨h1, h2, h3, a1, a2, a3, hc, hb, hbel⟩ := h
  have ha := hb.alloc (.cells #[.string x] 9)
  have l1 := fun k hk => ((h1.alloc (.cells #[.string x] 9)).lt k hk).2
  have l3 := fun k hk => ((h3.alloc (.cells #[.string x] 9)).lt k hk).2
  refine ⟨(h1.alloc _).kept hg a1.keep, ?_, (h3.alloc _).kept hg a3.symm.keep, a1.step l1 hat, a2, (a3.symm.step l3 hat).symm, hc, ha.grown hg (own_blk_ne (h2.alloc _) ha (by decide)), (hbel.alloc (Nat.le_of_lt hb.lt) _).grown hg (by have := hb.lt; simp; omega) (fun k hk => (h2.lt k hk).1)⟩
  rw [List.length_append, List.map_append]
  exact hown
theorem TxSt.app_c (h : TxSt f N w xs b c v vb vc wr) (hown : w2.ownsRow N 9 1 v' (c.length + 1) (c.map .string ++ [.string x])) (hg : (wr.alloc (.cells #[.string x] 9)).grownBy w2 vc.ownBlock)
    (hat : v'.ownBlock = vc.ownBlock ∨ v'.ownBlock = some (wr.heap.size + 1)) : TxSt f N w xs b (c ++ [x]) v vb v' w2 := by
  rw [← World.size_alloc wr (.cells #[.string x] 9)] at hat
  obtain ⟨h1, h2, h3, a1, a2, a3, hc, hb, hbel⟩ := h
  have ha := hb.alloc (.cells #[.string x] 9)
  have l1 := fun k hk => ((h1.alloc (.cells #[.string x] 9)).lt k hk).2
  have l2 := fun k hk => ((h2.alloc (.cells #[.string x] 9)).lt k hk).2
  refine ⟨(h1.alloc _).kept hg a2.keep, (h2.alloc _).kept hg a3.keep, ?_, a1, a2.step l1 hat, a3.step l2 hat, fun e => absurd e (by simp), ha.grown hg (own_blk_ne (h3.alloc _) ha (by decide)), (hbel.alloc (Nat.le_of_lt hb.lt) _).grown hg (by have := hb.lt; simp; omega) (fun k hk => (h3.lt k hk).1)⟩
  rw [List.length_append, List.map_append]
  exact hown
end
theorem idx_ad (f : Flg) (k : Nat) (hk : k < 2) (w : World) : (Instr.index 62 (.agg #[.bool f.app, .bool f.disc]) (.int .i64 (k : Int))).run Tryd.prog w = .ok (.bool (ad2 f k)) w := by
  have h : k = 0 ∨ k = 1 := by omega
  rcases h with rfl | rfl
  · show (Instr.index 62 _ (.int .i64 0)).run Tryd.prog w = .ok (.bool f.app) w
    kernel_rfl
  · show (Instr.index 62 _ (.int .i64 1)).run Tryd.prog w = .ok (.bool f.disc) w
    kernel_rfl
theorem sub_ad (k : Nat) (hk : k < 2) (w : World) : (Instr.slice 9 (.string ⟨#[65, 68]⟩) (some (.int .i64 (k : Int))) (some (.int .i64 ((k : Int) + 1))) none).run Tryd.prog w = .ok (.string (letAD k)) w := by
  have h : k = 0 ∨ k = 1 := by omega
  rcases h with rfl | rfl
  · show (Instr.slice 9 _ (some (.int .i64 0)) (some (.int .i64 1)) none).run Tryd.prog w = .ok (.string ⟨#[65]⟩) w
    kernel_rfl
  · show (Instr.slice 9 _ (some (.int .i64 1)) (some (.int .i64 2)) none).run Tryd.prog w = .ok (.string ⟨#[68]⟩) w
    kernel_rfl
def textV (f : Flg) : ByteArray := if chkF f = 0 then textF f else ⟨#[]⟩
theorem skip_size {f : Flg} (h : chkF f = 0) : ∀ x ∈ skipL f ++ redL f, x.size ≤ 102 := by
  obtain ⟨h1, h2, h3, _⟩ := chkF_zero h
  intro x hx
  unfold skipL redL at hx
  rcases List.mem_append.1 hx with h | h
  · split at h
    · cases h
    · obtain rfl := List.mem_singleton.1 h
      have := itoa_skip f.skip h1 h2
      rw [ByteArray.size_append]
      show 2 + _ ≤ _
      omega
  · split at h
    · cases h
    · rename_i hr
      obtain rfl := List.mem_singleton.1 h
      have := itoa_red f.red (by rw [beq_eq_false_iff_ne.2 hr] at h3; simpa using h3)
      rw [ByteArray.size_append]
      show 2 + _ ≤ _
      omega
theorem skip_len (f : Flg) : (skipL f ++ redL f).length ≤ 2 := by
  unfold skipL redL
  rw [List.length_append]
  split <;> split <;> simp
theorem parts_size {f : Flg} (h : chkF f = 0) : ∀ x ∈ partsL f, x.size ≤ 102 := by
  intro x hx
  unfold partsL at hx
  rcases List.mem_append.1 hx with h1 | h1
  · rcases List.mem_append.1 h1 with h2 | h2
    · have := wayL_size f 6 x h2; omega
    · have := adL_size f 2 x h2; omega
  · exact skip_size h x h1
theorem partsL_len (f : Flg) : (partsL f).length ≤ 10 := by
  unfold partsL
  rw [List.length_append, List.length_append]
  have h1 := wayL_le f 6
  have h2 := adL_len f 2
  have h3 := skip_len f
  omega
theorem partsL_join {f : Flg} (h : chkF f = 0) : (Lib.join ((partsL f).map (·.data.toList)) [44]).length ≤ 1030 := by
  have h1 := join_le (partsL f) (parts_size h)
  have h2 := partsL_len f
  have : (102 + 1) * (partsL f).length ≤ 103 * 10 := Nat.mul_le_mul (Nat.le_refl _) h2
  omega
/-- What joins the parts. -/
theorem text_join {f : Flg} (hf : chkF f = 0) {w W : World} {g n cap : Nat} {bl : List ByteArray} (hown : W.ownsRow w.heap.size 9 1 (.slice (some ⟨g, 0, none⟩) n cap) bl.length (bl.map .string)) (hb : bl = partsL f) (h0 : 0 < bl.length) (hw : Below w.heap.size w W) :
    (∀ (j : Nat) x, (partsL f)[j]? = some x → W.cell? ⟨g, 0 + j, none⟩ = some (.string x)) ∧ (Lib.join ((partsL f).map (·.data.toList)) [44]).length ≤ 1030 ∧ textV f = ⟨#[91]⟩ ++ joinT (partsL f) ++ ⟨#[93]⟩ ∧ Below w.heap.size w W := by
  subst hb
  refine ⟨fun j x hx => ?_, partsL_join hf, ?_, hw⟩
  · have := hown.cells (g := g) rfl j (.string x) (by rw [List.getElem?_map, hx]; rfl)
    rwa [Addr.add_lit] at this
  · unfold textV textF textL
    rw [if_pos hf, if_neg (fun e => by rw [e] at h0; exact absurd h0 (by decide))]
def TxA (f : Flg) (N : Nat) (w : World) (v : Value) (vb vc i : Value) (wr : World) : Prop :=
  ∃ k : Nat, k ≤ (waysL f).length ∧ i = .int .i64 (k : Int) ∧ TxSt f N w (waysL f) (((waysL f).take k).filter fun x => !isEq x) (((waysL f).take k).filter isEq) v vb vc wr
def TxB (f : Flg) (N : Nat) (w : World) (cl : List ByteArray) (v vc : Value) (vb i : Value) (wr : World) : Prop :=
  ∃ (k : Nat) (bl : List ByteArray), k ≤ 2 ∧ i = .int .i64 (k : Int) ∧ bl = wayL f 6 ++ adL f k ∧ TxSt f N w (waysL f) bl cl v vb vc wr
theorem adL_yes {f : Flg} {k : Nat} (h : ad2 f k = true) : adL f (k + 1) = adL f k ++ [letAD k] := by
  conv => lhs; unfold adL
  rw [if_pos h]
theorem adL_no {f : Flg} {k : Nat} (h : ad2 f k = false) : adL f (k + 1) = adL f k := by
  conv => lhs; unfold adL
  rw [h]; simp

set_option maxRecDepth 100000 in
set_option maxHeartbeats 2000000 in
theorem ftext (f : Flg) (hb : (-9223372036854775808 ≤ f.skip ∧ f.skip ≤ 9223372036854775807)) (w : World) (hT : Tabs w) (hm : MaxOk w) :
    Calls Tryd.prog 12 #[Value.agg #[Value.bool f.last, .bool f.next, .bool f.chain, .bool f.fin, .bool f.forb, .bool f.gone, .bool f.app, .bool f.disc, .int .i64 f.skip, .int .i64 f.red]] w fun e W' => e = .returned (.tuple #[.string (textV f), .int .i64 (chkF f)]) ∧ Below w.heap.size w W' := by
  have HT := Lib.hid (And.intro hT hm)
  have i0 := gr_alloc (Below.refl w.heap.size w) (.cells #[Value.bool f.last, .bool f.next, .bool f.chain, .bool f.fin, .bool f.forb, .bool f.gone, .bool f.app, .bool f.disc, .int .i64 f.skip, .int .i64 f.red] 24)
  have f0 := Blk.new w 24 #[Value.bool f.last, .bool f.next, .bool f.chain, .bool f.fin, .bool f.forb, .bool f.gone, .bool f.app, .bool f.disc, .int .i64 f.skip, .int .i64 f.red]
  have H0 := Lib.hid (And.intro f0 i0)
  clear hT hm f0 i0
  obtain ⟨i0, hi, hz0, hz1, hz2⟩ := info_parts infoStr
  go_enter Tryd.func12, Tryd.ntmps12
  go_wp2_with (fail)
  refine (fcheck f hb _ (HT.out.1.below H0.out.2 (Nat.le_refl _))).mono ?_
  rintro e W1 ⟨rfl, h1⟩
  have H1 := Lib.hid (And.intro (H0.out.1.call h1) (gr_call H0.out.2 h1))
  clear h1 H0
  obtain ⟨ce, hce⟩ : ∃ ce, ce = chkF f := ⟨_, rfl⟩
  have HC := Lib.hid hce
  rw [← hce]
  clear hce
  by_cases hc0 : ce = 0
  · have q : (ce != 0) = false := by simp; exact hc0
    have hC : chkF f = 0 := HC.out.symm.trans hc0
    obtain ⟨z1, z2, z3, z4⟩ := chkF_zero hC
    have HZ := Lib.hid (And.intro hC z3)
    have hwl1 : (waysL f).length ≤ 1 := by rw [waysL_len]; exact z4
    clear hc0 hC z3 z4
    have k0 := H1.out.1.cell' (i := 0) rfl
    have k1 := H1.out.1.cell' (i := 1) rfl
    have k2 := H1.out.1.cell' (i := 2) rfl
    have k3 := H1.out.1.cell' (i := 3) rfl
    have k4 := H1.out.1.cell' (i := 4) rfl
    have k5 := H1.out.1.cell' (i := 5) rfl
    have k6 := H1.out.1.cell' (i := 6) rfl
    have k7 := H1.out.1.cell' (i := 7) rfl
    have k8 := H1.out.1.cell' (i := 8) rfl
    have k9 := H1.out.1.cell' (i := 9) rfl
    have klt := H1.out.1.lt
    go_wp2_with (fail)
    refine (fways f ⟨z1, z2⟩ HZ.out.2 _ (HT.out.1.below H1.out.2 (Nat.le_refl _))).mono ?_
    rintro e W2 ⟨v, rfl, hown, h2w⟩
    clear k0 k1 k2 k3 k4 k5 k6 k7 k8 k9 klt
    obtain ⟨va, vcap, rfl⟩ := own_slice hown
    have hst : TxSt f w.heap.size w (waysL f) [] [] (.slice va (waysL f).length vcap) (.slice none 0 0) (.slice none 0 0) W2 :=
      ⟨own_weaken hown H1.out.2.size, World.ownsRow_nil _ _ _ _, World.ownsRow_nil _ _ _ _, fun _ _ => by simp [Value.ownBlock], fun _ _ => by simp [Value.ownBlock], fun _ h => by simp [Value.ownBlock] at h, fun _ => rfl, H1.out.1.call h2w, gr_call H1.out.2 h2w⟩
    have HS := Lib.hid hst
    clear hown h2w H1 hst
    go_wp2_with (fail)
    go_loopw [5, 6, 20] (fun vb vc i wr => TxA f w.heap.size w (.slice va (waysL f).length vcap) vb vc i wr) (fun _ _ i _ => (waysL f).length - (intOf i).toNat)
    case atStart => exact ⟨0, Nat.zero_le _, rfl, HS.out⟩
    case round =>
      clear HS
      obtain ⟨k, hk, rfl, hst⟩ := hrel
      have hmm := HT.out.2.below hst.2.2.2.2.2.2.2.2 (Nat.le_refl _)
      by_cases hlt : k < (waysL f).length
      · obtain ⟨x, hx⟩ : ∃ x, (waysL f)[k]? = some x := ⟨(waysL f)[k], List.getElem?_eq_getElem hlt⟩
        obtain ⟨g, cap, hgv, hgN, hgl, hgc⟩ := own_form hst.1 (by omega)
        have hga : va = some ⟨g, 0, none⟩ := by injection hgv
        subst hga
        have hc : wr.cell? ⟨g, k, none⟩ = some (.string x) := by
          have := hst.1.cells (g := g) rfl k (.string x) (by rw [List.getElem?_map, hx]; rfl)
          rw [Addr.add_lit, Nat.zero_add] at this
          exact this
        have hxs : x.size ≤ 102 := by
          have hm := List.mem_of_getElem? hx
          unfold waysL at hm
          rw [List.append_assoc] at hm
          rcases List.mem_append.1 hm with h | h
          · have := wayL_size f 6 x h; omega
          · exact skip_size HZ.out.1 x h
        obtain ⟨m, hmm⟩ := hmm
        have HX := Lib.hid (And.intro hx (And.intro hst hmm))
        obtain ⟨xe, hxe⟩ : ∃ b, b = isEq x := ⟨_, rfl⟩
        have HE := Lib.hid hxe
        clear hx hst hmm hgv
        go_wp2_with (fail)
        refine (Tryd.strings_Contains x ⟨#[61]⟩ m _ (by omega) (by exact HX.out.2.2)).mono ?_
        rintro e W3 ⟨rfl, rfl⟩
        rw [show Lib.contains x.data.toList (⟨#[61]⟩ : ByteArray).data.toList = xe from hxe.symm]
        clear hxe
        obtain ⟨ba, bc, rfl⟩ := own_slice HX.out.2.1.2.1
        obtain ⟨ca, cc, rfl⟩ := own_slice HX.out.2.1.2.2.1
        have hown2 := HX.out.2.1.2.1
        have hown3 := HX.out.2.1.2.2.1
        have hlb : (((waysL f).take k).filter fun x => !isEq x).length ≤ k := Nat.le_trans (List.length_filter_le _ _) (List.length_take_le _ _)
        have hlc : (((waysL f).take k).filter isEq).length ≤ k := Nat.le_trans (List.length_filter_le _ _) (List.length_take_le _ _)
        have hsz := HX.out.2.1.2.2.2.2.2.2.2.1.lt
        cases xe
        · have ex : Hid ((((waysL f).take (k + 1)).filter fun x => !isEq x) = (((waysL f).take k).filter fun x => !isEq x) ++ [x] ∧ ((waysL f).take (k + 1)).filter isEq = ((waysL f).take k).filter isEq) := Lib.hid ⟨filt_yes HX.out.1 (by rw [← HE.out]; rfl), filt_no HX.out.1 HE.out.symm⟩
          go_wp2_with (at_builtin; refine wpList_append_own_at _ rfl _ _ 40 rfl w.heap.size 9 i0 (.string ⟨#[]⟩) 1 16 Tryd.underlying40 hi hz0 hz1 hz2 rfl (by decide) _ _ _ rfl (hown2.alloc _) ⟨W3.heap.size, 0, none⟩ 1 1 [.string x] rfl rfl ?c1 ?c2 ?c3 ?c4 ?c5 ?_)
          case c1 => exact one_new rfl _ _
          case c2 => exact one_str _
          case c3 => unfold maxLen; omega
          case c4 => omega
          case c5 => simp; omega
          intro v' w2 hown' hgrow _ hat
          have K := Lib.hid (HX.out.2.1.app_b hown' hgrow hat)
          clear hown2 hown3 hown' hgrow hat hc
          go_wp2_with (fail)
          exact ⟨⟨k + 1, by omega, by go_num, by rw [ex.out.1, ex.out.2]; exact K.out⟩, by simp [intOf]; omega⟩
        · have ex : Hid ((((waysL f).take (k + 1)).filter fun x => !isEq x) = (((waysL f).take k).filter fun x => !isEq x) ∧ ((waysL f).take (k + 1)).filter isEq = ((waysL f).take k).filter isEq ++ [x]) := Lib.hid ⟨filt_no HX.out.1 (by rw [← HE.out]; rfl), filt_yes HX.out.1 HE.out.symm⟩
          go_wp2_with (at_builtin; refine wpList_append_own_at _ rfl _ _ 40 rfl w.heap.size 9 i0 (.string ⟨#[]⟩) 1 16 Tryd.underlying40 hi hz0 hz1 hz2 rfl (by decide) _ _ _ rfl (hown3.alloc _) ⟨W3.heap.size, 0, none⟩ 1 1 [.string x] rfl rfl ?d1 ?d2 ?d3 ?d4 ?d5 ?_)
          case d1 => exact one_new rfl _ _
          case d2 => exact one_str _
          case d3 => unfold maxLen; omega
          case d4 => omega
          case d5 => simp; omega
          intro v' w2 hown' hgrow _ hat
          have K := Lib.hid (HX.out.2.1.app_c hown' hgrow hat)
          clear hown2 hown3 hown' hgrow hat hc
          go_wp2_with (fail)
          exact ⟨⟨k + 1, by omega, by go_num, by rw [ex.out.1, ex.out.2]; exact K.out⟩, by simp [intOf]; omega⟩
      · obtain rfl : k = (waysL f).length := by omega
        rw [List.take_length, ways_before, ways_behind, show wayL f 6 = wayL f 6 ++ adL f 0 from (List.append_nil _).symm] at hst
        obtain ⟨bl, hbl⟩ : ∃ bl, bl = wayL f 6 ++ adL f 0 := ⟨_, rfl⟩
        obtain ⟨cl, hcl⟩ : ∃ cl, cl = skipL f ++ redL f := ⟨_, rfl⟩
        have hcl2 : cl.length ≤ 2 := by rw [hcl]; exact skip_len f
        rw [← hbl, ← hcl] at hst
        have HX := Lib.hid (And.intro hst hbl)
        have HCL := Lib.hid hcl
        have k6 := hst.2.2.2.2.2.2.2.1.cell' (i := 6) (v := .bool f.app) rfl
        have k7 := hst.2.2.2.2.2.2.2.1.cell' (i := 7) (v := .bool f.disc) rfl
        have hlt7 := hst.2.2.2.2.2.2.2.1.lt
        obtain ⟨ba, bc, rfl⟩ := own_slice hst.2.1
        obtain ⟨ca, cc, rfl⟩ := own_slice hst.2.2.1
        clear hst hmm hbl hcl
        go_wp2_with (fail)
        go_loopw [5, 40] (fun vb i wr => TxB f w.heap.size w cl (.slice va (waysL f).length vcap) (.slice ca cl.length cc) vb i wr) (fun _ i _ => 2 - (intOf i).toNat)
        case atStart => exact ⟨0, bl, by omega, rfl, HX.out.2, HX.out.1⟩
        case round =>
          clear HX k6 k7 hlt7
          obtain ⟨k, bl, hk, rfl, hbl, hst⟩ := hrel
          have hl9 : bl.length ≤ 8 := by
            have hlw := wayL_le f 6
            have hla := adL_len f k
            rw [hbl, List.length_append]; omega
          obtain ⟨ba2, bc2, rfl⟩ := own_slice hst.2.1
          by_cases hlt2 : k < 2
          · have hix := idx_ad f k hlt2
            have hsub := sub_ad k hlt2
            obtain ⟨b, hb2⟩ : ∃ b, b = ad2 f k := ⟨_, rfl⟩
            rw [← hb2] at hix
            have hsz := hst.2.2.2.2.2.2.2.1.lt
            have hown2 := hst.2.1
            have HX := Lib.hid (And.intro hst (And.intro hb2 hbl))
            clear hst hb2 hbl
            cases b
            · go_wp2_with (fail)
              exact ⟨⟨k + 1, bl, by omega, by go_num, by rw [adL_no HX.out.2.1.symm]; exact HX.out.2.2, HX.out.1⟩, by simp [intOf]; omega⟩
            · go_wp2_with (at_builtin; refine wpList_append_own_at _ rfl _ _ 40 rfl w.heap.size 9 i0 (.string ⟨#[]⟩) 1 16 Tryd.underlying40 hi hz0 hz1 hz2 rfl (by decide) _ _ _ rfl (hown2.alloc _) ⟨wr.heap.size, 0, none⟩ 1 1 [.string (letAD k)] rfl rfl ?e1 ?e2 ?e3 ?e4 ?e5 ?_)
              case e1 => exact one_new rfl _ _
              case e2 => exact one_str _
              case e3 => unfold maxLen; omega
              case e4 => omega
              case e5 => simp; omega
              intro v' w2 hown' hgrow _ hat
              have K := Lib.hid (HX.out.1.app_b hown' hgrow hat)
              clear hown2 hown' hgrow hat hix hsub
              go_wp2_with (fail)
              exact ⟨⟨k + 1, bl ++ [letAD k], by omega, by go_num, by rw [adL_yes HX.out.2.1.symm, ← List.append_assoc, HX.out.2.2], K.out⟩, by simp [intOf]; omega⟩
          · obtain rfl : k = 2 := by omega
            have hpl : bl ++ cl = partsL f := by rw [hbl, HCL.out]; rfl
            have HX := Lib.hid (And.intro hst hpl)
            have hown2 := hst.2.1
            have hown3 := hst.2.2.1
            have hvn := hst.2.2.2.2.2.2.1
            have hsz := hst.2.2.2.2.2.2.2.1.lt
            clear hst hpl hbl
            by_cases hcn : cl = []
            · subst hcn
              obtain ⟨rfl, rfl⟩ : ca = none ∧ cc = 0 := by have := hvn rfl; simpa using this
              have hpl : bl = partsL f := by rw [← HX.out.2, List.append_nil]
              have HQ := Lib.hid (And.intro hown2 (And.intro hpl HX.out.1.2.2.2.2.2.2.2.2))
              clear hvn hown3 hpl HX
              by_cases hb0 : bl.length = 0
              · have ht : Hid (textV f = ⟨#[]⟩) := Lib.hid (by unfold textV textF textL; rw [if_pos HZ.out.1, if_pos (by rw [← HQ.out.2.1]; exact List.eq_nil_of_length_eq_zero hb0)])
                have hb1 : ¬ (0 : Int) < (bl.length : Int) := by omega
                clear hb0
                go_wp2_with (at_builtin; refine wpList_append_own_none rfl _ _ 40 rfl w.heap.size 9 i0 1 Tryd.underlying40 hi _ _ _ rfl hown2 rfl ?_)
                go_ret2
                exact ⟨by rw [ht.out, HZ.out.1] <;> rfl, HQ.out.2.2⟩
              · obtain ⟨g, cap, hgv, hgN, hgl, hgc⟩ := own_form HQ.out.1 (by omega)
                obtain ⟨rfl, rfl⟩ : ba2 = some ⟨g, 0, none⟩ ∧ bc2 = cap := by simpa using hgv
                clear hgv
                have hb1 : (0 : Int) < (bl.length : Int) := by omega
                have HJ := Lib.hid (text_join HZ.out.1 HQ.out.1 HQ.out.2.1 (by omega) HQ.out.2.2)
                go_wp2_with (at_builtin; refine wpList_append_own_none rfl _ _ 40 rfl w.heap.size 9 i0 1 Tryd.underlying40 hi _ _ _ rfl hown2 rfl ?_)
                rw [HQ.out.2.1]
                have hpl := partsL_len f
                rw [HQ.out.2.1] at hgc
                refine (Tryd.strings_Join g 0 bc2 (partsL f) ⟨#[44]⟩ _ HJ.out.1 hgl (by omega) (by omega) (by have := HJ.out.2.1; exact Nat.le_trans this (by decide))).mono ?_
                rintro e W5 ⟨rfl, h5⟩
                have HB := Lib.hid (gr_call HJ.out.2.2.2 h5)
                obtain ⟨js, hjs⟩ : ∃ js, js = joinT (partsL f) := ⟨_, rfl⟩
                have hjz : js.size ≤ 1030 := by rw [hjs, ← size_data]; exact HJ.out.2.1
                have HJS := Lib.hid hjs
                rw [show (⟨(Lib.join ((partsL f).map (·.data.toList)) (⟨#[44]⟩ : ByteArray).data.toList).toArray⟩ : ByteArray) = js from hjs.symm]
                clear hjs h5
                go_wp2_with (fail)
                go_ret2
                exact ⟨by rw [HJ.out.2.2.1, HZ.out.1, ← HJS.out] <;> rfl, HB.out⟩
            · have hcp : 0 < cl.length := List.length_pos_iff.2 hcn
              obtain ⟨g, cap, hgv, hgN, hgl, hgc⟩ := own_form hown3 hcp
              obtain ⟨rfl, rfl⟩ : ca = some ⟨g, 0, none⟩ ∧ cc = cap := by simpa using hgv
              have hcl3 := hown3.cells (g := g) rfl
              have HC3 := Lib.hid hcl3
              clear hgv hvn hown3 hcn hcl3
              go_wp2_with (at_builtin; refine wpList_append_own _ rfl _ _ 40 rfl w.heap.size 9 i0 (.string ⟨#[]⟩) 1 16 Tryd.underlying40 hi hz0 hz1 hz2 rfl (by decide) _ _ _ rfl hown2 ⟨g, 0, none⟩ cl.length cc (cl.map .string) rfl (by simp) ?h1 ?h2 ?h3 ?h4 ?h5 ?_)
              case h1 => exact HC3.out
              case h2 => intro u hu; obtain ⟨q, _, rfl⟩ := List.mem_map.1 hu; rfl
              case h3 => unfold maxLen; omega
              case h4 => omega
              case h5 => omega
              intro v' w2 hown' hgrow _
              have hpl : bl ++ cl = partsL f := HX.out.2
              have hown5 : w2.ownsRow w.heap.size 9 1 v' (partsL f).length ((partsL f).map .string) := by
                rw [← hpl, List.length_append, List.map_append]; exact hown'
              have hbel5 := HX.out.1.2.2.2.2.2.2.2.2.grown hgrow (Nat.le_of_lt hsz) (fun k hk => (hown2.lt k hk).1)
              have hlen5 : (partsL f).length = bl.length + cl.length := by rw [← hpl, List.length_append]
              have HQ := Lib.hid (And.intro hown5 hbel5)
              have hpp : 0 < (partsL f).length := by omega
              have hb1 : (0 : Int) < ((partsL f).length : Int) := by omega
              obtain ⟨g, cap, hgv, hgN, hgl, hgc⟩ := own_form hown5 hpp
              subst hgv
              have HJ := Lib.hid (text_join HZ.out.1 HQ.out.1 rfl hpp HQ.out.2)
              have hpl2 := partsL_len f
              clear hpl hown5 hbel5 hlen5 hown' hgrow hown2
              go_wp2_with (fail)
              refine (Tryd.strings_Join g 0 cap (partsL f) ⟨#[44]⟩ _ HJ.out.1 hgl (by omega) (by omega) (by have := HJ.out.2.1; exact Nat.le_trans this (by decide))).mono ?_
              rintro e W5 ⟨rfl, h5⟩
              have HB := Lib.hid (gr_call HJ.out.2.2.2 h5)
              obtain ⟨js, hjs⟩ : ∃ js, js = joinT (partsL f) := ⟨_, rfl⟩
              have hjz : js.size ≤ 1030 := by rw [hjs, ← size_data]; exact HJ.out.2.1
              have HJS := Lib.hid hjs
              rw [show (⟨(Lib.join ((partsL f).map (·.data.toList)) (⟨#[44]⟩ : ByteArray).data.toList).toArray⟩ : ByteArray) = js from hjs.symm]
              clear hjs h5
              go_wp2_with (fail)
              go_ret2
              exact ⟨by rw [HJ.out.2.2.1, HZ.out.1, ← HJS.out] <;> rfl, HB.out⟩
  · have q : (ce != 0) = true := by simp; exact hc0
    have ht : Hid (textV f = ⟨#[]⟩) := Lib.hid (by unfold textV; rw [if_neg (by rw [← HC.out]; exact hc0)])
    clear hc0
    go_wp2_with (fail)
    go_ret2
    exact ⟨by rw [ht.out, ← HC.out] <;> rfl, H1.out.2⟩
end Go.Proofs.YtlipjagdlpkjpaaDoor
