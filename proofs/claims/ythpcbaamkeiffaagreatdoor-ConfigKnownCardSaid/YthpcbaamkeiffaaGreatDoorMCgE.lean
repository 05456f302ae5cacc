/-
  config's own, walked: a copy in new memory; conditions: sizes.
-/
import Derived.Test.YthpcbaamkeiffaaGreatDoorMCgD
namespace Go.Proofs.YthpcbaamkeiffaaGreatDoor
open Go.RowKit Go.Shelf
set_option linter.unusedVariables false
set_option linter.unusedSimpArgs false

/-- What own hands back. -/
def OwP (w : World) (c : Cf) (e : Ending) (W : World) : Prop := ∃ d r, e = .returned (.agg #[.int .i64 c.cap, .int .i64 c.lim, d, r]) ∧ DrsMem W w.heap.size W.heap.size d c.dirs ∧ RosMem W w.heap.size r c.ros ∧ Below w.heap.size w W
theorem use_key4 {P : Prop} {G : Option Addr → Nat → Option Addr → Nat → World → Prop} (S : Option Addr → Nat → Option Addr → Nat → World → Prop) (h1 : (∀ a b c d V, S a b c d V → G a b c d V) → P) (h2 : ∀ a b c d V, S a b c d V → G a b c d V) : P := h1 h2
theorem use_keyV {P : Prop} {G : Option Addr → Nat → World → Prop} (S : Option Addr → Nat → World → Prop) (h1 : (∀ a b V, S a b V → G a b V) → P) (h2 : ∀ a b V, S a b V → G a b V) : P := h1 h2
theorem InL.const {α : Type} {m : Nat} {cell : α → Value → List Value} {inner : World → α → Value → Prop} {w V : World} {v : Value} {xs : List α} (h : InL m cell inner w v xs) (hb : Below w.heap.size w V) : InL m cell (fun _ x u => inner w x u) V v xs := by
  obtain ⟨A, c, us, h1, h2, h3, h4, h5⟩ := h
  exact ⟨A, c, us, h1, h2, h3, h4.below hb, h5⟩
theorem rules_one {w : World} (x : Dr) (u : Value) (h : RulesIn w u x.rus) : ∀ q ∈ drC x u, q.oneCell' = true := by
  obtain ⟨A, c, rfl⟩ := InL.slice h
  exact dir_one x _ _ _
theorem segs_one {w : World} (x : Ro) (u : Value) (h : TextsIn w u x.seg ∧ CapOk u) : ∀ q ∈ roC x u, q.oneCell' = true := by
  obtain ⟨⟨A, c, rfl, _⟩, _⟩ := h
  exact route_one x _ _ _
theorem conds_one {w : World} (x : Ru) (u : Value) (h : CondsIn w u x.cds) : ∀ q ∈ ruC x u, q.oneCell' = true := by
  obtain ⟨A, c, rfl⟩ := InL.slice h
  exact rule_one x _ _ _
set_option maxRecDepth 100000 in
set_option maxHeartbeats 16000000 in
theorem own_code (c : Cf) (hz : CfSz c) (v : Value) (w : World) (hv : CfIn w v c) : Calls Tryz.prog 50 #[v] w (OwP w c) := by
  obtain ⟨d0, r0, rfl, hd, hr⟩ := hv
  obtain ⟨dA0, dc0, rfl⟩ := InL.slice hd
  obtain ⟨rA0, rc0, rfl⟩ := InL.slice hr
  have hcd := fun V (hV : Below w.heap.size w V) => clone_dirs c.dirs hz.dirs _ V (fun _ x u => RulesIn w u x.rus) (fun x u h => rules_one x u h) (InL.const hd hV)
  have hcr := fun V (hV : Below w.heap.size w V) => clone_routes c.ros hz.ros _ V (fun _ x u => TextsIn w u x.seg ∧ CapOk u) (fun x u h => segs_one x u h) (InL.const hr hV)
  obtain ⟨nd, hnd⟩ : ∃ k, k = c.dirs.length := ⟨_, rfl⟩
  obtain ⟨nr, hnr⟩ : ∃ k, k = c.ros.length := ⟨_, rfl⟩
  rw [← hnd] at hcd ⊢
  rw [← hnr] at hcr ⊢
  have hb0 : Below w.heap.size w ((w.alloc (.cells #[.int .i64 c.cap, .int .i64 c.lim, .slice dA0 nd dc0, .slice rA0 nr rc0] 27)).alloc (.cells #[.int .i64 0, .int .i64 0, .slice none 0 0, .slice none 0 0] 27)) := gr_alloc (gr_alloc (Below.refl _ _) _) _
  have k1 : Blk ((w.alloc (.cells #[.int .i64 c.cap, .int .i64 c.lim, .slice dA0 nd dc0, .slice rA0 nr rc0] 27)).alloc (.cells #[.int .i64 0, .int .i64 0, .slice none 0 0, .slice none 0 0] 27)) w.heap.size 27 #[.int .i64 c.cap, .int .i64 c.lim, .slice dA0 nd dc0, .slice rA0 nr rc0] := (Blk.new _ _ _).alloc _
  have k2 : Blk ((w.alloc (.cells #[.int .i64 c.cap, .int .i64 c.lim, .slice dA0 nd dc0, .slice rA0 nr rc0] 27)).alloc (.cells #[.int .i64 0, .int .i64 0, .slice none 0 0, .slice none 0 0] 27)) (w.heap.size + 1) 27 #[.int .i64 0, .int .i64 0, .slice none 0 0, .slice none 0 0] := blk_at (by simp)
  have H := Lib.hid (And.intro hd (And.intro hr (And.intro hz (And.intro hnd hnr))))
  obtain ⟨post, hpost⟩ : ∃ p, p = OwP w c := ⟨_, rfl⟩
  rw [← hpost]
  have HP := Lib.hid hpost
  clear hd hr hz hnd hnr hpost
  go_enter Tryz.func50, Tryz.ntmps50
  go_wp2_with (fail)
  obtain ⟨b1, hb1e⟩ : ∃ b, b = w.heap.size := ⟨_, rfl⟩
  obtain ⟨b2, hb2e⟩ : ∃ b, b = w.heap.size + 1 := ⟨_, rfl⟩
  rw [← hb2e] at k2 ⊢
  rw [← hb1e] at k1 ⊢
  have HB := Lib.hid (And.intro hb1e hb2e)
  clear hb1e hb2e
  generalize ((w.alloc (.cells #[.int .i64 c.cap, .int .i64 c.lim, .slice dA0 nd dc0, .slice rA0 nr rc0] 27)).alloc (.cells #[.int .i64 0, .int .i64 0, .slice none 0 0, .slice none 0 0] 27)) = w1 at hb0 k1 k2 ⊢
  have q2 : w1.cell? ⟨b1, 2, none⟩ = some (.slice dA0 nd dc0) := k1.cell' (i := 2) rfl
  have q3 : w1.cell? ⟨b1, 3, none⟩ = some (.slice rA0 nr rc0) := k1.cell' (i := 3) rfl
  have ql := k1.lt
  have K := Lib.hid (And.intro hb0 (And.intro k1 k2))
  clear hb0 k1 k2
  apply use_key4 (S := fun dA dc rA rc V => ∃ us rs, OD w c b1 b2 dA dc rA rc V us rs ∧ Each (fun x u => RulesIn w u x.rus) c.dirs us ∧ Each (fun x u => TextsIn w u x.seg ∧ CapOk u) c.ros rs)
  case h1 =>
    intro key
    go_region_with (first
      | (go_at_call 79; refine (hcd _ (by first | exact K.out.1 | exact gr_drew K.out.1 | exact hbr)).mono ?_; rintro e Wd ⟨v1, us, rfl, hU, hEd, hbd0⟩
         obtain ⟨dA, dc, rfl⟩ := hU.slice
         have hbd : Below w.heap.size w Wd := (by first | exact gr_call K.out.1 hbd0 | exact gr_call (gr_drew K.out.1) hbd0 | exact gr_call hbr hbd0)
         have kd1 : Blk Wd b1 27 #[.int .i64 c.cap, .int .i64 c.lim, .slice dA0 nd dc0, .slice rA0 nr rc0] := (by first | exact K.out.2.1.call hbd0 | exact K.out.2.1.drew.call hbd0 | exact kr1.call hbd0)
         have kd2 : Blk Wd b2 27 #[.int .i64 0, .int .i64 0, .slice none 0 0, .slice none 0 0] := (by first | exact K.out.2.2.call hbd0 | exact K.out.2.2.drew.call hbd0 | exact kr2.call hbd0)
         have d2 : Wd.cell? ⟨b1, 2, none⟩ = some (.slice dA0 nd dc0) := kd1.cell' (i := 2) rfl
         have d3 : Wd.cell? ⟨b1, 3, none⟩ = some (.slice rA0 nr rc0) := kd1.cell' (i := 3) rfl
         have df2 := kd1.frozen 2
         have df3 := kd1.frozen 3
         have dl := kd1.lt)
      | (go_at_call 80; refine (hcr _ (by first | exact K.out.1 | exact gr_drew K.out.1 | exact hbd)).mono ?_; rintro e Wr ⟨v2, rs, rfl, hV, hEr, hbr0⟩
         obtain ⟨rA, rc, rfl⟩ := hV.slice
         have hbr : Below w.heap.size w Wr := (by first | exact gr_call K.out.1 hbr0 | exact gr_call (gr_drew K.out.1) hbr0 | exact gr_call hbd hbr0)
         have kr1 : Blk Wr b1 27 #[.int .i64 c.cap, .int .i64 c.lim, .slice dA0 nd dc0, .slice rA0 nr rc0] := (by first | exact K.out.2.1.call hbr0 | exact K.out.2.1.drew.call hbr0 | exact kd1.call hbr0)
         have kr2 : Blk Wr b2 27 #[.int .i64 0, .int .i64 0, .slice none 0 0, .slice none 0 0] := (by first | exact K.out.2.2.call hbr0 | exact K.out.2.2.drew.call hbr0 | exact kd2.call hbr0)
         have r2 : Wr.cell? ⟨b1, 2, none⟩ = some (.slice dA0 nd dc0) := kr1.cell' (i := 2) rfl
         have r3 : Wr.cell? ⟨b1, 3, none⟩ = some (.slice rA0 nr rc0) := kr1.cell' (i := 3) rfl
         have rf2 := kr1.frozen 2
         have rf3 := kr1.frozen 3
         have rl := kr1.lt))
    all_goals
      have hne : ∀ k t cs, Blk Wr k t cs → t ≠ 27 → k ≠ b1 := fun k t cs hk ht => hk.ne_ kr1 ht
      have hb12 : b2 ≠ b1 := by have h1 := HB.out.1; have h2 := HB.out.2; omega
      refine gen_at (p := fun V => ∃ us rs, OD w c b1 b2 dA dc rA rc V us rs ∧ Each (fun x u => RulesIn w u x.rus) c.dirs us ∧ Each (fun x u => TextsIn w u x.seg ∧ CapOk u) c.ros rs)
        ⟨us, rs, ⟨((hU.weaken K.out.1.size).below hbr0).keep fun k cs _ hk => (hk.far (p := ⟨b1, 2, none⟩) (hne k _ cs hk (by decide)) _).far (p := ⟨b1, 3, none⟩) (hne k _ cs hk (by decide)) _, (hV.weaken hbd.size).keep fun k cs _ hk => (hk.far (p := ⟨b1, 2, none⟩) (hne k _ cs hk (by decide)) _).far (p := ⟨b1, 3, none⟩) (hne k _ cs hk (by decide)) _,
          (kr1.set_ 2 _).set_ 3 _, (kr2.far (p := ⟨b1, 2, none⟩) hb12 _).far (p := ⟨b1, 3, none⟩) hb12 _, (hbr.setCell (Nat.le_of_eq HB.out.1.symm) _).setCell (Nat.le_of_eq HB.out.1.symm) _⟩, hEd, hEr⟩ ?_
      intro V hV
      exact key dA dc rA rc V hV
  case h2 =>
    intro dA dc rA rc V hV
    obtain ⟨us, rs, hO, hED, hER⟩ := hV
    have q2 : V.cell? ⟨b1, 2, none⟩ = some (.slice dA nd dc) := by rw [H.out.2.2.2.1]; exact hO.box.cell' (i := 2) rfl
    have ql := hO.box.lt
    have L0 := Lib.hid (And.intro hO (And.intro hED hER))
    have hndi : nd ≤ 1000000 := by rw [H.out.2.2.2.1]; exact H.out.2.2.1.dirs
    clear hO hED hER hcd hcr
    go_wp2_with (fail)
    go_loopg [17] nd (fun m iv wr => ∃ (i : Nat) (us : List Value), m = nd - i ∧ i ≤ nd ∧ iv = .int .i64 (i : Int) ∧ OD w c b1 b2 dA dc rA rc wr us rs ∧ DI w wr i c.dirs us)
    case atStart => exact ⟨0, us, rfl, Nat.zero_le _, rfl, L0.out.1, ⟨fun j x u hj => absurd hj (Nat.not_lt_zero _), fun j x u _ hx hu => L0.out.2.1 j x u hx hu, fun j k a b hj => absurd hj (Nat.not_lt_zero _)⟩⟩
    case round =>
      clear q2 ql
      obtain ⟨i, us, hm, hi, rfl, hO, hD⟩ := hrel
      have hnd := H.out.2.2.2.1
      by_cases hlt : i < nd
      · have hii : (i : Int) < nd := by omega
        obtain ⟨x, hx⟩ : ∃ x, c.dirs[i]? = some x := ⟨_, List.getElem?_eq_getElem (by omega)⟩
        obtain ⟨u, hu⟩ : ∃ u, us[i]? = some u := ⟨_, List.getElem?_eq_getElem (by have := hO.dirs.1; omega)⟩
        have hri := hD.hi i x u (Nat.le_refl _) hx hu
        obtain ⟨gd, dcap, he, _, hgl⟩ := hO.dirs.form (by omega)
        cases he
        obtain ⟨uA, uc, hue⟩ := InL.slice hri
        have hcl := fun V' (hV : Below w.heap.size w V') => clone_rules x.rus (H.out.2.2.1.rus x (List.mem_of_getElem? hx)).1 u V' (fun _ y q => CondsIn w q y.cds) (fun y q h => conds_one y q h) (InL.const hri hV)
        subst hue
        obtain ⟨rn, hrn⟩ : ∃ k, k = x.rus.length := ⟨_, rfl⟩
        rw [← hrn] at hcl
        have q2 : wr.cell? ⟨b1, 2, none⟩ = some (.slice (some ⟨gd, 0, none⟩) nd dc) := by rw [hnd]; exact hO.box.cell' (i := 2) rfl
        have ql := hO.box.lt
        have e2 : wr.cell? ⟨gd, i * 3 + 2, none⟩ = some (.slice uA rn uc) := by rw [hrn]; exact hO.dirs.cellAt drC_len hx hu (by decide) rfl
        have M := Lib.hid (And.intro hm (And.intro hi (And.intro hO (And.intro hD (And.intro hx (And.intro hu (And.intro hri (And.intro hrn hnd))))))))
        have hrni : rn ≤ 1000000 := by rw [hrn]; exact (H.out.2.2.1.rus x (List.mem_of_getElem? hx)).1
        clear hm hi hO hD hx hu hri hrn hnd
        go_wp2_with (fail)
        apply use_keyV (S := fun vA vc V => ∃ vs us', OD w c b1 b2 (some ⟨gd, 0, none⟩) dc rA rc V us' rs ∧ DW w V i c.dirs us' (.slice vA x.rus.length vc) ∧ OwnU 66 14 ruC V w.heap.size (.slice vA x.rus.length vc) x.rus vs ∧ RI w V 0 x.rus vs)
        case h1 =>
            intro key
            go_region_with (first
              | (go_at_call 81; refine (hcl _ (by first | exact M.out.2.2.1.bel | exact gr_drew M.out.2.2.1.bel)).mono ?_; rintro e W1 ⟨v1, vs, rfl, hv, hvE, hb1⟩
                 obtain ⟨vA, vc, rfl⟩ := hv.slice
                 have hbW : Below wr.heap.size wr W1 := (by first | exact hb1 | exact gr_call (gr_drew (Below.refl _ _)) hb1)
                 have hO1 := M.out.2.2.1.call hbW
                 have w2 : W1.cell? ⟨b1, 2, none⟩ = some (.slice (some ⟨gd, 0, none⟩) nd dc) := (by rw [M.out.2.2.2.2.2.2.2.2]; exact hO1.box.cell' (i := 2) rfl)
                 have wl := hO1.box.lt
                 have w3 : W1.cell? ⟨gd, i * 3 + 2, none⟩ = some (.slice uA rn uc) := (by rw [M.out.2.2.2.2.2.2.2.1]; exact hO1.dirs.cellAt drC_len M.out.2.2.2.2.1 M.out.2.2.2.2.2.1 (by decide) rfl)
                 have w3f := hO1.dirs.frozen (i * 3 + 2)
                 have w3l := (hO1.dirs.block (k := gd) rfl).2))
            all_goals
              obtain ⟨z1, z2, z3, z4⟩ := DI.copy M.out.2.2.1 M.out.2.2.2.1 M.out.2.2.2.2.1 M.out.2.2.2.2.2.1 hbW hv hvE
              refine gen_at (p := fun V => ∃ vs us', OD w c b1 b2 (some ⟨gd, 0, none⟩) dc rA rc V us' rs ∧ DW w V i c.dirs us' (.slice vA x.rus.length vc) ∧ OwnU 66 14 ruC V w.heap.size (.slice vA x.rus.length vc) x.rus vs ∧ RI w V 0 x.rus vs) ⟨vs, _, z1, z2, z3, z4⟩ ?_
              intro V hV
              exact key vA vc V hV
        case h2 =>
          intro vA vc V6 hV6
          obtain ⟨vs, us', hO, hW, hv, hR⟩ := hV6
          have hrn := M.out.2.2.2.2.2.2.2.1
          have hnd := M.out.2.2.2.2.2.2.2.2
          have q2 : V6.cell? ⟨b1, 2, none⟩ = some (.slice (some ⟨gd, 0, none⟩) nd dc) := by rw [hnd]; exact hO.box.cell' (i := 2) rfl
          have ql := hO.box.lt
          have e2 : V6.cell? ⟨gd, i * 3 + 2, none⟩ = some (.slice vA rn vc) := by rw [hrn]; exact hO.dirs.cellAt drC_len M.out.2.2.2.2.1 hW.at_ (by decide) rfl
          have gdl := (hO.dirs.block (k := gd) rfl).2
          rw [← hrn]
          have N := Lib.hid (And.intro hO (And.intro hW (And.intro hv hR)))
          clear hO hW hv hR hcl hrn hnd
          go_wp2_with (fail)
          go_loopg [39] rn (fun m kv wx => ∃ (k : Nat) (vs : List Value), m = rn - k ∧ k ≤ rn ∧ kv = .int .i64 (k : Int) ∧ OD w c b1 b2 (some ⟨gd, 0, none⟩) dc rA rc wx us' rs ∧ DW w wx i c.dirs us' (.slice vA x.rus.length vc) ∧ OwnU 66 14 ruC wx w.heap.size (.slice vA x.rus.length vc) x.rus vs ∧ RI w wx k x.rus vs)
          case atStart => exact ⟨0, vs, rfl, Nat.zero_le _, rfl, N.out.1, N.out.2.1, N.out.2.2.1, N.out.2.2.2⟩
          case round =>
            clear q2 ql e2 gdl
            obtain ⟨k, vs, hmk, hk, rfl, hO, hW, hv, hR⟩ := hrel
            have hrn := M.out.2.2.2.2.2.2.2.1
            have hnd := M.out.2.2.2.2.2.2.2.2
            by_cases hkl : k < rn
            · have hki : (k : Int) < rn := by omega
              obtain ⟨y, hy⟩ : ∃ y, x.rus[k]? = some y := ⟨_, List.getElem?_eq_getElem (by omega)⟩
              obtain ⟨q, hq⟩ : ∃ q, vs[k]? = some q := ⟨_, List.getElem?_eq_getElem (by have := hv.1; omega)⟩
              have hci := hR.hi k y q (Nat.le_refl _) hy hq
              obtain ⟨gr, rcap, he, _, hrl⟩ := hv.form (by omega)
              cases he
              obtain ⟨qA, qc, hqe⟩ := InL.slice hci
              have hcl := fun V' (hV : Below w.heap.size w V') => clone_conds y.cds ((H.out.2.2.1.rus x (List.mem_of_getElem? M.out.2.2.2.2.1)).2 y (List.mem_of_getElem? hy)) q V' (fun _ _ _ => True) (fun z u _ => cond_one z u) (InL.const hci hV)
              subst hqe
              obtain ⟨yn, hyn⟩ : ∃ k, k = y.cds.length := ⟨_, rfl⟩
              rw [← hyn] at hcl
              have q2 : wr.cell? ⟨b1, 2, none⟩ = some (.slice (some ⟨gd, 0, none⟩) nd dc) := by rw [hnd]; exact hO.box.cell' (i := 2) rfl
              have ql := hO.box.lt
              have e2 : wr.cell? ⟨gd, i * 3 + 2, none⟩ = some (.slice (some ⟨gr, 0, none⟩) rn vc) := by rw [hrn]; exact hO.dirs.cellAt drC_len M.out.2.2.2.2.1 hW.at_ (by decide) rfl
              have gdl := (hO.dirs.block (k := gd) rfl).2
              have g2 : wr.cell? ⟨gr, k * 14 + 2, none⟩ = some (.slice qA yn qc) := by rw [hyn]; exact hv.cellAt ruC_len hy hq (by decide) rfl
              have N2 := Lib.hid (And.intro hmk (And.intro hk (And.intro hO (And.intro hW (And.intro hv (And.intro hR (And.intro hy (And.intro hq (And.intro hci (And.intro hyn (And.intro hrn hnd)))))))))))
              have hyni : yn ≤ 1000000 := by rw [hyn]; exact (H.out.2.2.1.rus x (List.mem_of_getElem? M.out.2.2.2.2.1)).2 y (List.mem_of_getElem? hy)
              clear hmk hk hO hW hv hR hy hq hci hyn hrn hnd
              go_wp2_with (fail)
              go_region_with (first
                | (go_at_call 82; refine (hcl _ (by first | exact N2.out.2.2.1.bel | exact gr_drew N2.out.2.2.1.bel)).mono ?_; rintro e W2 ⟨v2, ws, rfl, hc, _, hb2⟩
                   obtain ⟨cA, cc, rfl⟩ := hc.slice
                   have hbX : Below wr.heap.size wr W2 := (by first | exact hb2 | exact gr_call (gr_drew (Below.refl _ _)) hb2)
                   have hO2 := N2.out.2.2.1.call hbX
                   have hv2 := N2.out.2.2.2.2.1.below hbX
                   have w2 : W2.cell? ⟨b1, 2, none⟩ = some (.slice (some ⟨gd, 0, none⟩) nd dc) := (by rw [N2.out.2.2.2.2.2.2.2.2.2.2.2]; exact hO2.box.cell' (i := 2) rfl)
                   have wl := hO2.box.lt
                   have w3 : W2.cell? ⟨gd, i * 3 + 2, none⟩ = some (.slice (some ⟨gr, 0, none⟩) rn vc) := (by rw [N2.out.2.2.2.2.2.2.2.2.2.2.1]; exact hO2.dirs.cellAt drC_len M.out.2.2.2.2.1 N2.out.2.2.2.1.at_ (by decide) rfl)
                   have w3l := (hO2.dirs.block (k := gd) rfl).2
                   have w4 : W2.cell? ⟨gr, k * 14 + 2, none⟩ = some (.slice qA yn qc) := (by rw [N2.out.2.2.2.2.2.2.2.2.2.1]; exact hv2.cellAt ruC_len N2.out.2.2.2.2.2.2.1 N2.out.2.2.2.2.2.2.2.1 (by decide) rfl)
                   have w4f := hv2.frozen (k * 14 + 2)
                   have w4l := (hv2.block (k := gr) rfl).2))
              all_goals
                obtain ⟨z1, z2, z3, z4⟩ := RI.copy N2.out.2.2.1 N2.out.2.2.2.1 N2.out.2.2.2.2.1 N2.out.2.2.2.2.2.1 N2.out.2.2.2.2.2.2.1 N2.out.2.2.2.2.2.2.2.1 hbX hc
                have N3 := Lib.hid (And.intro z1 (And.intro z2 (And.intro z3 z4)))
                clear z1 z2 z3 z4 hO2 hv2 w2 wl w3 w3l w4 w4f w4l hc hb2 hbX hcl q2 ql e2 gdl g2
                go_wp2_with (fail)
                go_roundg (rn - (k + 1))
                · exact ⟨k + 1, _, rfl, by omega, by go_num, N3.out.1, N3.out.2.1, N3.out.2.2.1, N3.out.2.2.2⟩
                · have := N2.out.1
                  omega
            · have hki : ¬ (k : Int) < rn := by omega
              have hke : k = x.rus.length := by omega
              subst hke
              have N2 := Lib.hid (And.intro hO (And.intro (hW.done M.out.2.2.2.2.1 hv hR) (And.intro hrn hnd)))
              clear hO hW hv hR hmk hk hrn hnd
              go_wp2_with (fail)
              go_roundg (nd - (i + 1))
              · exact ⟨i + 1, us', rfl, by omega, by go_num, N2.out.1, N2.out.2.1⟩
              · have := M.out.1
                omega
      · have hii : ¬ (i : Int) < nd := by omega
        have hie : i = c.dirs.length := by omega
        have hnr := H.out.2.2.2.2
        have r2 : wr.cell? ⟨b1, 3, none⟩ = some (.slice rA nr rc) := by rw [hnr]; exact hO.box.cell' (i := 3) rfl
        have rl := hO.box.lt
        have hnri : nr ≤ 1000000 := by rw [hnr]; exact H.out.2.2.1.ros
        rw [hie] at hD
        have L1 := Lib.hid (And.intro hO hD)
        clear hm hi hO hD hie hnd hnr
        go_wp2_with (fail)
        go_loopg [67] nr (fun m iv wx => ∃ (i : Nat) (rs : List Value), m = nr - i ∧ i ≤ nr ∧ iv = .int .i64 (i : Int) ∧ OD w c b1 b2 dA dc rA rc wx us rs ∧ DI w wx c.dirs.length c.dirs us ∧ SI w wx i c.ros rs)
        case atStart => exact ⟨0, rs, rfl, Nat.zero_le _, rfl, L1.out.1, L1.out.2, ⟨fun j x u hj => absurd hj (Nat.not_lt_zero _), fun j x u _ hx hu => (L0.out.2.2 j x u hx hu).1⟩⟩
        case round =>
          clear r2 rl
          obtain ⟨j, rs', hm, hj, rfl, hO, hD, hS⟩ := hrel
          have hnr := H.out.2.2.2.2
          by_cases hjl : j < nr
          · have hji : (j : Int) < nr := by omega
            obtain ⟨x, hx⟩ : ∃ x, c.ros[j]? = some x := ⟨_, List.getElem?_eq_getElem (by omega)⟩
            obtain ⟨u, hu⟩ : ∃ u, rs'[j]? = some u := ⟨_, List.getElem?_eq_getElem (by have := hO.ros.1; omega)⟩
            have hti := hS.hi j x u (Nat.le_refl _) hx hu
            obtain ⟨gd, dcap, he, _, hgl⟩ := hO.ros.form (by omega)
            cases he
            obtain ⟨uA, un, uc, hue⟩ : ∃ A n c, u = .slice A n c := (by obtain ⟨A, c, e, _⟩ := hti; exact ⟨A, _, c, e⟩)
            have hcl := fun V' (hV : Below w.heap.size w V') => clone_texts x.seg (H.out.2.2.1.seg x (List.mem_of_getElem? hx)) u V' (hti.below hV)
            subst hue
            have q2 : wr.cell? ⟨b1, 3, none⟩ = some (.slice (some ⟨gd, 0, none⟩) nr rc) := by rw [hnr]; exact hO.box.cell' (i := 3) rfl
            have ql := hO.box.lt
            have e2 : wr.cell? ⟨gd, j * 3, none⟩ = some (.slice uA un uc) := by have h := hO.ros.cellAt (j := 0) roC_len hx hu (by decide) rfl; simpa using h
            have M := Lib.hid (And.intro hm (And.intro hj (And.intro hO (And.intro hD (And.intro hS (And.intro hx (And.intro hu hnr)))))))
            clear hm hj hO hD hS hx hu hti hnr
            go_wp2_with (fail)
            go_region_with (first
              | (go_at_call 83; refine (hcl _ (by first | exact M.out.2.2.1.bel | exact gr_drew M.out.2.2.1.bel)).mono ?_; rintro e W1 ⟨v1, rfl, hv, hb1⟩
                 obtain ⟨vA, vc, rfl⟩ := own_slice hv
                 have hbW : Below wr.heap.size wr W1 := (by first | exact hb1 | exact gr_call (gr_drew (Below.refl _ _)) hb1)
                 have hO1 := M.out.2.2.1.call hbW
                 have w2 : W1.cell? ⟨b1, 3, none⟩ = some (.slice (some ⟨gd, 0, none⟩) nr rc) := (by rw [M.out.2.2.2.2.2.2.2]; exact hO1.box.cell' (i := 3) rfl)
                 have wl := hO1.box.lt
                 have w3 : W1.cell? ⟨gd, j * 3, none⟩ = some (.slice uA un uc) := (by have h := hO1.ros.cellAt (j := 0) roC_len M.out.2.2.2.2.2.1 M.out.2.2.2.2.2.2.1 (by decide) rfl; simpa using h)
                 have w3f := hO1.ros.frozen (j * 3)
                 have w3l := (hO1.ros.block (k := gd) rfl).2))
            all_goals
              obtain ⟨z1, z2, z3⟩ := SI.copy M.out.2.2.1 M.out.2.2.2.1 M.out.2.2.2.2.1 M.out.2.2.2.2.2.1 M.out.2.2.2.2.2.2.1 hbW hv
              have N3 := Lib.hid (And.intro z1 (And.intro z2 z3))
              clear z1 z2 z3 hO1 w2 wl w3 w3f w3l hv hb1 hbW hcl q2 ql e2
              go_wp2_with (fail)
              go_roundg (nr - (j + 1))
              · exact ⟨j + 1, _, rfl, by omega, by go_num, N3.out.1, N3.out.2.1, N3.out.2.2⟩
              · have := M.out.1
                omega
          · have hji : ¬ (j : Int) < nr := by omega
            have hje : j = c.ros.length := by omega
            have hnd := H.out.2.2.2.1
            have c0 : wr.cell? ⟨b1, 0, none⟩ = some (.int .i64 c.cap) := hO.box.cell' (i := 0) rfl
            have c1 : wr.cell? ⟨b1, 1, none⟩ = some (.int .i64 c.lim) := hO.box.cell' (i := 1) rfl
            have c2 : wr.cell? ⟨b1, 2, none⟩ = some (.slice dA nd dc) := by rw [hnd]; exact hO.box.cell' (i := 2) rfl
            have c3 : wr.cell? ⟨b1, 3, none⟩ = some (.slice rA nr rc) := by rw [hnr]; exact hO.box.cell' (i := 3) rfl
            have cl := hO.box.lt
            have d0 : wr.cell? ⟨b2, 0, none⟩ = some (.int .i64 0) := hO.res.cell' (i := 0) rfl
            have d1 : wr.cell? ⟨b2, 1, none⟩ = some (.int .i64 0) := hO.res.cell' (i := 1) rfl
            have d2 : wr.cell? ⟨b2, 2, none⟩ = some (.slice none 0 0) := hO.res.cell' (i := 2) rfl
            have d3 : wr.cell? ⟨b2, 3, none⟩ = some (.slice none 0 0) := hO.res.cell' (i := 3) rfl
            have df0 := hO.res.frozen 0
            have df1 := hO.res.frozen 1
            have df2 := hO.res.frozen 2
            have df3 := hO.res.frozen 3
            have dl := hO.res.lt
            have E := Lib.hid (And.intro hO (And.intro hD (And.intro hS (And.intro hje (And.intro hnd hnr)))))
            clear hm hj hO hD hS hje hnd hnr
            go_wp2_with (fail)
            have hB2 : w.heap.size ≤ b2 := by have := HB.out.2; omega
            have zb : Below w.heap.size w ((((wr.setCell ⟨b2, 0, none⟩ (.int .i64 c.cap)).setCell ⟨b2, 1, none⟩ (.int .i64 c.lim)).setCell ⟨b2, 2, none⟩ (.slice dA nd dc)).setCell ⟨b2, 3, none⟩ (.slice rA nr rc)) := (((E.out.1.bel.setCell hB2 _).setCell hB2 _).setCell hB2 _).setCell hB2 _
            have zr : Blk ((((wr.setCell ⟨b2, 0, none⟩ (.int .i64 c.cap)).setCell ⟨b2, 1, none⟩ (.int .i64 c.lim)).setCell ⟨b2, 2, none⟩ (.slice dA nd dc)).setCell ⟨b2, 3, none⟩ (.slice rA nr rc)) b2 27 #[.int .i64 c.cap, .int .i64 c.lim, .slice dA nd dc, .slice rA nr rc] := (((E.out.1.res.set_ 0 (.int .i64 c.cap)).set_ 1 (.int .i64 c.lim)).set_ 2 (.slice dA nd dc)).set_ 3 (.slice rA nr rc)
            have zk : ∀ k t cs, Blk wr k t cs → t ≠ 27 → Blk ((((wr.setCell ⟨b2, 0, none⟩ (.int .i64 c.cap)).setCell ⟨b2, 1, none⟩ (.int .i64 c.lim)).setCell ⟨b2, 2, none⟩ (.slice dA nd dc)).setCell ⟨b2, 3, none⟩ (.slice rA nr rc)) k t cs := fun k t cs hk ht => (((hk.far (p := ⟨b2, 0, none⟩) (hk.ne_ E.out.1.res ht) _).far (p := ⟨b2, 1, none⟩) (hk.ne_ E.out.1.res ht) _).far (p := ⟨b2, 2, none⟩) (hk.ne_ E.out.1.res ht) _).far (p := ⟨b2, 3, none⟩) (hk.ne_ E.out.1.res ht) _
            have zs : wr.heap.size ≤ ((((wr.setCell ⟨b2, 0, none⟩ (.int .i64 c.cap)).setCell ⟨b2, 1, none⟩ (.int .i64 c.lim)).setCell ⟨b2, 2, none⟩ (.slice dA nd dc)).setCell ⟨b2, 3, none⟩ (.slice rA nr rc)).heap.size := by simp [World.setCell]
            generalize ((((wr.setCell ⟨b2, 0, none⟩ (.int .i64 c.cap)).setCell ⟨b2, 1, none⟩ (.int .i64 c.lim)).setCell ⟨b2, 2, none⟩ (.slice dA nd dc)).setCell ⟨b2, 3, none⟩ (.slice rA nr rc)) = Z at zb zr zk zs ⊢
            have r0 : Z.cell? ⟨b2, 0, none⟩ = some (.int .i64 c.cap) := zr.cell' (i := 0) rfl
            have r1 : Z.cell? ⟨b2, 1, none⟩ = some (.int .i64 c.lim) := zr.cell' (i := 1) rfl
            have r2 : Z.cell? ⟨b2, 2, none⟩ = some (.slice dA nd dc) := zr.cell' (i := 2) rfl
            have r3 : Z.cell? ⟨b2, 3, none⟩ = some (.slice rA nr rc) := zr.cell' (i := 3) rfl
            refine bodyPost_ret (v := .agg #[.int .i64 c.cap, .int .i64 c.lim, .slice dA nd dc, .slice rA nr rc]) (by simp [results, Tryz.results50, go_sem, r0, r1, r2, r3]) rfl ?_
            rw [HP.out, E.out.2.2.2.2.1, E.out.2.2.2.2.2]
            refine ⟨_, _, rfl, ⟨us, E.out.1.dirs.keep fun k cs _ hk => zk k _ cs hk (by decide), fun j x u hx hu => ?_, fun i j a b ha hb hij => ?_⟩, ⟨rs', E.out.1.ros.keep fun k cs _ hk => zk k _ cs hk (by decide), fun j x u hx hu => ?_⟩, zb⟩
            · exact ((E.out.2.1.lo j x u (List.getElem?_eq_some_iff.1 hx).1 hx hu).keep (fun k cs _ hk => zk k _ cs hk (by decide)) (fun k cs _ hk => zk k _ cs hk (by decide))).mono zs
            · have hl := E.out.1.dirs.1
              exact E.out.2.1.ap i j a b (by have := (List.getElem?_eq_some_iff.1 ha).1; omega) (by have := (List.getElem?_eq_some_iff.1 hb).1; omega) ha hb hij
            · exact (E.out.2.2.1.lo j x u (by have := (List.getElem?_eq_some_iff.1 hx).1; have := E.out.2.2.2.1; omega) hx hu).keep fun k cs hk => zk k _ cs hk (by decide)
end Go.Proofs.YthpcbaamkeiffaaGreatDoor
