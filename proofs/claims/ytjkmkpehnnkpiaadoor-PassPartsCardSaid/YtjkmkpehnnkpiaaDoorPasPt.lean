/-
  PassParts, walked: it returns true, whatever the input; condition: the two tables lie as they are laid.
-/
import Derived.Test.YtjkmkpehnnkpiaaDoorPasPl
import Derived.Test.YtjkmkpehnnkpiaaDoorPasP3
import Derived.Test.YtjkmkpehnnkpiaaDoorPasL
import Derived.Deep.CutRange
import Derived.Deep.CutBlock
import Derived.Test.YtjkmkpehnnkpiaaDoorMod
namespace Go.Proofs.YtjkmkpehnnkpiaaDoor
open Go.RowKit Go.Joins Go.Shelf
set_option linter.unusedVariables false
set_option linter.unusedSimpArgs false

theorem wpList_guard {P : Program} {w : World} {ops : Array Oper} {rest : List Oper} {o : Oper} {a : Act} {Q : Exit → Act → World → Prop} (hw : Region.wanted o (yielded ops a.tmps) = true) (h : wpList P ops Q ({o with guard := none} :: rest) a w) : wpList P ops Q (o :: rest) a w := by
  unfold wpList at h ⊢
  rw [if_pos hw]
  rw [if_pos (by rfl)] at h
  exact h
theorem append_more {P : Program} {w : World} {ops : Array Oper} {rest : List Oper} {o : Oper} {a : Act} {Q : Exit → Act → World → Prop} (hgd : o.guard = none) (s x : Operand) (t : TypeId)
    (ho : o.op = .call { callee := .builtin .append, args := #[s, x], argTypes := #[t, t] })
    (base : Nat) (e : TypeId) (i : TypeInfo) (z : Value) (size bytes : Nat) (ht : P.underlying t = some (.slice e)) (hi : P.info? e = some i) (hz : i.zero = some z)
    (hsize : i.size = size) (hby : i.bytes = bytes) (hzs : z.cells.size = size) (hsz : 0 < size)
    (v : Value) (hs : a.eval s = v) (n0 : Nat) (xs : List Value) (hown : w.ownsRow base e size v n0 xs)
    (A : Option Addr) (m c : Nat) (f : Nat → Nat → Value) (hx : a.eval x = .slice A m c) (hA : ArgOk A m c) (hc : Cells w A size m f) (h1 : ∀ i j, (f i j).oneCell' = true)
    (h63 : n0 + m ≤ maxLen) (hbytes : (n0 + m) * bytes ≤ 140737488355328) (hbase : base ≤ w.heap.size)
    (h : ∀ v' w', w'.ownsRow base e size v' (n0 + m) (xs ++ flatC f size m) → w.grownBy w' v.ownBlock → wpList P ops Q rest (a.put o.dst v') w') : wpList P ops Q (o :: rest) a w := by
  cases A with
  | none =>
    obtain ⟨rfl, rfl⟩ := hA rfl
    refine wpList_append_own_none hgd s x t ho base e i size ht hi v n0 xs hs hown hx (h _ _ ?_ (only_refl w _))
    have : flatC f size 0 = [] := by simp [flatC]
    rw [this, List.append_nil]; exact hown
  | some ad =>
    refine wpList_append_own (w := w) hgd s x t ho base e i z size bytes ht hi hz hsize hby hzs hsz v n0 xs hs hown ad m c (flatC f size m) hx (flatC_len _ _ _) (fun j u hj => ?_) (fun u hu => ?_) h63 hbytes hbase (fun v' w' h2 h3 _ => h v' w' h2 h3)
    · have hjl : j < m * size := by
        have := (List.getElem?_eq_some_iff.1 hj).1
        rwa [flatC_len] at this
      rw [flatC_at f size m j hjl] at hj
      have hm0 : 0 < m := Nat.pos_of_ne_zero (fun e => by subst e; simp at hjl)
      obtain ⟨b, off, ea, _, hcl⟩ := hc hm0
      cases ea
      have := hcl (j / size) (j % size) (Nat.div_lt_of_lt_mul (by rw [Nat.mul_comm]; exact hjl)) (Nat.mod_lt _ hsz)
      have ej : off + j / size * size + j % size = off + j := by
        have := Nat.div_add_mod j size
        rw [Nat.mul_comm] at this
        omega
      rw [ej] at this
      rw [Addr.add_lit, this]
      exact hj
    · obtain ⟨t', _, rfl⟩ := List.mem_map.1 hu
      exact h1 _ _

set_option maxRecDepth 100000 in
set_option maxHeartbeats 4000000 in
theorem kownInts (L : List Nat) (A : Option Addr) (c : Nat) (hn : L.length ≤ 1000000) (w : World) (hA : ArgOk A L.length c) (hc : Cells w A 1 L.length (intsAt (L.map fun (k : Nat) => (k : Int)))) :
    Calls Tryd.prog 31 #[.slice A L.length c] w fun e W' => ∃ v, e = .returned v ∧ W'.ownsRow w.heap.size 3 1 v L.length (intL L) ∧ Below w.heap.size w W' := by
  obtain ⟨i1, hi1, hz10, hz11, hz12⟩ := info_parts infoInt
  have HA := Lib.hid (And.intro hA hc)
  clear hA hc
  obtain ⟨n, hnl⟩ : ∃ n, n = L.length := ⟨_, rfl⟩
  have HL := Lib.hid hnl
  rw [← hnl] at HA hn ⊢
  clear hnl
  go_enter Tryd.func31, Tryd.ntmps31
  go_wp2_with (at_builtin; refine append_any rfl _ _ 40 rfl w.heap.size 3 i1 _ 1 8 Tryd.underlying40 hi1 hz10 hz11 hz12 rfl (by decide) _ rfl (own_empty w w.heap.size 3 1 (Nat.le_refl _)) A n c (intsAt (L.map fun (k : Nat) => (k : Int))) rfl HA.out.1 ?c1 ?c2 ?c3 ?c4 ?c5 ?_)
  case c1 => exact HA.out.2.below ((Below.refl w.heap.size w).alloc (Nat.le_refl _) _)
  case c2 => intro i j; rfl
  case c3 => unfold maxLen; omega
  case c4 => omega
  case c5 => simp
  intro v1 W1 hown1 hgrow1
  have b1 : Below w.heap.size w W1 := (gr_alloc (Below.refl w.heap.size w) _).grown hgrow1 (by simp) (by intro k hk; simp [Value.ownBlock] at hk; omega)
  rw [HL.out, intL_flat, ← HL.out] at hown1
  obtain ⟨va, vc, rfl⟩ := own_slice hown1
  have H := Lib.hid (And.intro b1 hown1)
  clear b1 hown1 hgrow1
  go_wp2_with (fail)
  go_ret
  exact ⟨_, rfl, H.out.2, H.out.1⟩

/-- Where the loop of PassParts stands. -/
def PartsRel (F : Nat → Flg) (q : Nat) (g : Nat → Bool) (r i t3 : Nat) (e3 : Bool) (L3 : List Nat) (B7 : Option Addr) (d7 : Nat) (va7 : Option Addr) (vc7 base : Nat) (w W4 : World) (P C : Nat) (x21 : Value) (wr : World) : Prop :=
  ∃ j : Nat, j ≤ i ∧ x21 = .int .i64 (j : Int) ∧ Below w.heap.size w wr ∧ Below W4.heap.size W4 wr ∧ wr.ownsRow base 3 1 (.slice va7 i vc7) i (intL L3) ∧ Blk wr C 30 #[.slice B7 q d7, .int .i64 (t3 : Int), .bool e3] ∧ Cells wr B7 10 q (flgAt F) ∧
    ∃ B d, Blk wr P 30 #[.slice B q d, .int .i64 (atN F q (ansL g r) 0 j : Int), .bool (enN F q (ansL g r) 0 false j)] ∧ Cells wr B 10 q (flgAt F) ∧ ArgOk B q d

set_option maxRecDepth 100000 in
set_option maxHeartbeats 16000000 in
theorem law_parts (G K : Nat → Int) (hG : NumOk G) (hK : NumOk K) (A AA : Option Addr) (n c m cc : Nat) (cut : Int) (hcut : -9223372036854775808 ≤ cut ∧ cut ≤ 9223372036854775807) (w : World) (hT : Tabs w) (hg : Cells w A 1 n (numAt G)) (hk : Cells w AA 1 m (numAt K)) :
    Calls Tryd.prog 5 #[.slice A n c, .slice AA m cc, .int .i64 cut] w fun e W' => e = .returned (.bool true) ∧ Below w.heap.size w W' := by
  obtain ⟨q, hq⟩ : ∃ q, q = min n 12 := ⟨_, rfl⟩
  have hq12 : q ≤ 12 := by omega
  obtain ⟨r, hr⟩ : ∃ r : Nat, min (m : Int) 40 = (r : Int) := ⟨min m 40, by omega⟩
  have hr40 : r ≤ 40 := by omega
  have HA := Lib.hid (And.intro hG (And.intro hK (And.intro hT (And.intro hg (And.intro hk (And.intro hq hcut))))))
  clear hG hK hT hg hk hq hcut
  go_enter Tryd.func5, Tryd.ntmps5
  go_wp2_with (fail)
  refine (lmade G HA.out.1 A n c true q HA.out.2.2.2.2.2.1 w HA.out.2.2.2.1).mono ?_
  rintro e W1 ⟨B, d, rfl, k1, k2, k3, _⟩
  have H1 := Lib.hid (And.intro k3 (And.intro k2 k1))
  clear k1 k2 k3
  go_wp2_with (fail)
  refine (lbools K HA.out.2.1 AA m cc r (by omega) _ (HA.out.2.2.2.2.1.below H1.out.1)).mono ?_
  rintro e W2 ⟨C, dc, rfl, k1, k2, k3, _, hrd⟩
  have H2 := Lib.hid (And.intro (gr_call H1.out.1 k3) (And.intro H1.out.2.1 (And.intro (H1.out.2.2.below k3) (And.intro k1 k2))))
  clear k1 k2 k3 H1 hr
  go_wp2_with (fail)
  refine (kmod cut ((r : Int) + 1) _ HA.out.2.2.2.2.2.2 ⟨by omega, by omega⟩).mono ?_
  rintro e W3 ⟨rfl, k3⟩
  obtain ⟨k, hk⟩ : ∃ k : Nat, cut % ((r : Int) + 1) = (k : Int) := ⟨(cut % ((r : Int) + 1)).toNat, by have := Int.emod_nonneg cut (show (r : Int) + 1 ≠ 0 by omega); omega⟩
  have hkr : k ≤ r := by have := Int.emod_lt_of_pos cut (show 0 < (r : Int) + 1 by omega); omega
  rw [hk]
  clear hk
  have H3 := Lib.hid (And.intro (gr_call H2.out.1 k3) (And.intro H2.out.2.1 (And.intro (H2.out.2.2.1.below k3) (And.intro (H2.out.2.2.2.1.below k3) H2.out.2.2.2.2))))
  clear k3 H2
  have hF := skip_made true G
  have hfe := flags_made true G q hq12
  have hgb : ∀ i, boolAt (ansG K m) i = boolAt (ansG K m) i := fun _ => rfl
  generalize mkG true G = F at H3 hF hfe
  generalize ansG K m = g at H3 hgb
  clear hgb
  have HF := Lib.hid (And.intro hF hfe)
  clear hF hfe
  go_wp2_with (fail)
  refine (pstart F HF.out.1 B q d (by omega) _ (HA.out.2.2.1.below H3.out.1 (Nat.le_refl _)) H3.out.2.1 H3.out.2.2.1).mono ?_
  rintro e W4 ⟨B4, d4, rfl, k1, k2, k3, k4⟩
  have hs4 : startN F q = q := by unfold startN; rw [if_pos HF.out.2]
  rw [hs4] at k1 k2 ⊢
  rw [HF.out.2]
  clear hs4
  have z4 := gr_alloc (gr_call H3.out.1 k3) (.cells #[.slice B4 q d4, .int .i64 0, .bool false] 30)
  have b4 := Blk.new W4 30 #[.slice B4 q d4, .int .i64 0, .bool false]
  have al : Below W4.heap.size W4 (W4.alloc (.cells #[.slice B4 q d4, .int .i64 0, .bool false] 30)) := gr_alloc (Below.refl _ _) _
  have u0 := b4.cell' (i := 0) rfl
  have u1 := b4.cell' (i := 1) rfl
  have u2 := b4.cell' (i := 2) rfl
  have ul := b4.lt
  have s4 := (gr_call H3.out.1 k3).size
  have H3o := Lib.hid H3.out.2.1
  have HS4 := Lib.hid s4
  have H4w := Lib.hid (And.intro (H3.out.2.2.1.below k3) (And.intro (H3.out.2.2.2.1.below k3) al))
  have H4 := Lib.hid (And.intro z4 (And.intro b4 (And.intro (k1.below al) (And.intro k2 (And.intro (((H3.out.2.2.1.below k3).below al)) (And.intro H3.out.2.1 (And.intro ((H3.out.2.2.2.1.below k3).below al) H3.out.2.2.2.2)))))))
  clear z4 b4 al k1 k2 k3 k4 H3
  have hkd : (k : Int) ≤ (dc : Int) := by omega
  have hkd : (k : Int) ≤ (dc : Int) := by omega
  have hp0 : passE F q ((0 : Nat) : Int) false = 0 := by rw [show ((0 : Nat) : Int) = 0 from rfl, passE_start]; exact HF.out.2
  have HP0 := Lib.hid hp0
  clear hp0
  go_upto_region 5 with (fail)
  generalize hW0 : (W4.alloc (.cells #[.slice B4 q d4, .int .i64 0, .bool false] 30)) = W0 at H4 H4w u0 u1 u2 ul ⊢
  have HS0 : Hid (W0.heap.size = W4.heap.size + 1) := Lib.hid (by rw [← hW0]; simp)
  clear hW0
  go_cut [12, 13, 14] from 41 to 49 (fun v12 v13 v14 wx => v14 = .int .i64 0 ∧ ∃ i, RunAt F q g k 0 false W0 i v12 v13 wx)
  case first =>
    go_region_with (go_at_call 24; first
      | (refine (prun_ok F HF.out.1 B4 C q d4 k dc 0 false g (by omega) (by omega) W0.drew (HA.out.2.2.1.below (gr_drew H4.out.1) (Nat.le_refl _)) H4.out.2.2.2.1 H4.out.2.2.1 (Cells.take H4.out.2.2.2.2.2.2.1 hkr) HP0.out).mono ?_; rintro e W5 ⟨B5, d5, i1, v5, rfl, g1, g2, g3, g4, g5, g6, g7⟩; obtain ⟨va5, vc5, rfl⟩ := own_slice g6)
      | (refine (prun_ok F HF.out.1 B4 C q d4 k dc 0 false g (by omega) (by omega) _ (HA.out.2.2.1.below (gr_drew (gr_alloc H4.out.1 _)) (Nat.le_refl _)) H4.out.2.2.2.1 (H4.out.2.2.1.below (gr_drew (gr_alloc (Below.refl _ _) _))) ((Cells.take H4.out.2.2.2.2.2.2.1 hkr).below (gr_drew (gr_alloc (Below.refl _ _) _))) HP0.out).mono ?_; rintro e W5 ⟨B5, d5, i1, v5, rfl, g1, g2, g3, g4, g5, g6, g7⟩; obtain ⟨va5, vc5, rfl⟩ := own_slice g6; have y := Blk.call (Blk.drew (Blk.new W0 30 #[.slice none 0 0, .int .i64 0, .bool false])) g7; have yf0 := y.frozen 0; have yf1 := y.frozen 1; have yf2 := y.frozen 2; have yl := y.lt; have y0 := y.cell' (i := 0) rfl; have y1 := y.cell' (i := 1) rfl; have y2 := y.cell' (i := 2) rfl))
    all_goals
      clear hkd u0 u1 u2 ul s4
      go_wp2_with (fail)
      go_meet
      first
        | exact ⟨rfl, i1, runAt_new g1 g2 g3 (gr_call (gr_drew (Below.refl _ _)) g7) g6 g4 g5⟩
        | exact ⟨rfl, i1, runAt_old g1 g2 g3 (gr_call (gr_drew (gr_alloc (Below.refl _ _) _)) g7) (own_weaken g6 (by simp)) g4 g5 y (Nat.le_refl _)⟩
  case rest =>
  obtain ⟨rfl, i1, g1, g2, g3, g4, g6, B5, d5, X5, rfl, hX5, x5, g7, g8⟩ := hcut
  obtain ⟨WA, hWA⟩ : ∃ X, X = wc := ⟨_, rfl⟩
  subst hWA
  obtain ⟨va5, vc5, rfl⟩ := own_slice g6
  have hp1 := passE_at (F := F) (n := q) (ans := ansL g k) (i := i1) HF.out.2 g3
  have H5 := Lib.hid (And.intro g1 (And.intro g2 (And.intro g3 (And.intro g4 (And.intro g6 (And.intro x5 (And.intro g7 (And.intro g8 hp1))))))))
  have v0 := x5.cell' (i := 0) rfl
  have v1 := x5.cell' (i := 1) rfl
  have v2 := x5.cell' (i := 2) rfl
  have vl := x5.lt
  clear g2 g3 g4 g6 x5 g7 g8 hp1 u0 u1 u2 ul s4 hkd
  obtain ⟨t1, ht1⟩ : ∃ t1, t1 = atN F q (ansL g k) 0 i1 := ⟨_, rfl⟩
  obtain ⟨e1, he1⟩ : ∃ e1, e1 = enN F q (ansL g k) 0 false i1 := ⟨_, rfl⟩
  rw [← ht1, ← he1] at H5
  rw [← ht1] at v1
  rw [← he1] at v2
  have HT1 := Lib.hid (And.intro ht1 he1)
  clear ht1 he1
  have hkr' : (k : Int) ≤ (r : Int) := by omega
  go_upto_region 6 with (fail)
  go_cut [15, 16, 17] from 50 to 58 (fun v12 v13 v14 wx => v14 = .int .i64 0 ∧ ∃ i, RunAt F q (later g k) (r - k) t1 e1 WA i v12 v13 wx)
  case first =>
    obtain ⟨C2, hC2, hc2⟩ : ∃ C2, (if dc = k then C else Option.map (fun x => x.add k) C) = C2 ∧ Cells WA C2 1 (r - k) (boolAt (later g k)) := ⟨_, rfl, Cells.from_ (H4.out.2.2.2.2.2.2.1.below H5.out.2.2.2.1) hkr hrd⟩
    have HC2 := Lib.hid hc2
    clear hc2
    go_region_with (go_at_call 24; first
      | (refine (prun_ok F HF.out.1 B5 _ q d5 (r - k) _ t1 e1 (later g k) (by omega) (by omega) WA.drew (HA.out.2.2.1.below (gr_drew (gr_call H4.out.1 H5.out.2.2.2.1)) (Nat.le_refl _)) H5.out.2.2.2.2.2.2.2.1 H5.out.2.2.2.2.2.2.1 HC2.out H5.out.2.2.2.2.2.2.2.2).mono ?_; rintro e W5 ⟨B6, d6, i1, v6, rfl, g1, g2, g3, g4, g5, g6, g7⟩; obtain ⟨va6, vc6, rfl⟩ := own_slice g6)
      | (refine (prun_ok F HF.out.1 B5 _ q d5 (r - k) _ t1 e1 (later g k) (by omega) (by omega) _ (HA.out.2.2.1.below (gr_drew (gr_alloc (gr_call H4.out.1 H5.out.2.2.2.1) _)) (Nat.le_refl _)) H5.out.2.2.2.2.2.2.2.1 (H5.out.2.2.2.2.2.2.1.below (gr_drew (gr_alloc (Below.refl _ _) _))) (HC2.out.below (gr_drew (gr_alloc (Below.refl _ _) _))) H5.out.2.2.2.2.2.2.2.2).mono ?_; rintro e W5 ⟨B6, d6, i1, v6, rfl, g1, g2, g3, g4, g5, g6, g7⟩; obtain ⟨va6, vc6, rfl⟩ := own_slice g6; have y := Blk.call (Blk.drew (Blk.new WA 30 #[.slice none 0 0, .int .i64 0, .bool false])) g7; have yf0 := y.frozen 0; have yf1 := y.frozen 1; have yf2 := y.frozen 2; have yl := y.lt; have y0 := y.cell' (i := 0) rfl; have y1 := y.cell' (i := 1) rfl; have y2 := y.cell' (i := 2) rfl))
    all_goals
      clear v0 v1 v2 vl hkr'
      go_wp2_with (fail)
      go_meet
      first
        | exact ⟨rfl, i1, runAt_new g1 g2 g3 (gr_call (gr_drew (Below.refl _ _)) g7) g6 g4 g5⟩
        | exact ⟨rfl, i1, runAt_old g1 g2 g3 (gr_call (gr_drew (gr_alloc (Below.refl _ _) _)) g7) (own_weaken g6 (by simp)) g4 g5 y (Nat.le_refl _)⟩
  case rest =>
  obtain ⟨rfl, i2, g1, g2, g3, g4, g6, B6, d6, X6, rfl, hX6, x6, g7, g8⟩ := hcut
  obtain ⟨va6, vc6, rfl⟩ := own_slice g6
  obtain ⟨WB, hWB⟩ : ∃ X, X = wc := ⟨_, rfl⟩
  subst hWB
  have p4 := (H4.out.2.1.call H5.out.2.2.2.1).call g4
  have zB := gr_call (gr_call H4.out.1 H5.out.2.2.2.1) g4
  have v0 := p4.cell' (i := 0) rfl
  have v1 := p4.cell' (i := 1) rfl
  have v2 := p4.cell' (i := 2) rfl
  have vl := p4.lt
  have H6 := Lib.hid (And.intro zB (And.intro p4 (And.intro (own_below H5.out.2.2.2.2.1 g4 (Nat.le_refl _)) (And.intro x6 (And.intro g7 (And.intro g8 (And.intro g6 g4)))))))
  have HG := Lib.hid (And.intro g1 (And.intro g2 g3))
  clear g1 g2 g3 g4 g6 g7 g8 x6 p4 zB hkr'
  go_wp2_with (fail)
  refine (prun_ok F HF.out.1 B4 C q d4 r dc 0 false g (by omega) (by omega) _ (HA.out.2.2.1.below H6.out.1 (Nat.le_refl _)) H4.out.2.2.2.1 (H4.out.2.2.1.below (gr_call H5.out.2.2.2.1 H6.out.2.2.2.2.2.2.2)) (H4.out.2.2.2.2.2.2.1.below (gr_call H5.out.2.2.2.1 H6.out.2.2.2.2.2.2.2)) HP0.out).mono ?_
  rintro e W7 ⟨B7, d7, i, v7, rfl, g1, g2, g3, g4, g5, g6, g7⟩
  obtain ⟨va7, vc7, rfl⟩ := own_slice g6
  obtain ⟨hii, hat, hen, htr⟩ := parts_plain hkr H5.out.1 H5.out.2.1 H5.out.2.2.1 HT1.out.1 HT1.out.2 HG.out.1 HG.out.2.1 HG.out.2.2 g1 g2 g3
  rw [← hat, ← hen] at H6
  obtain ⟨t3, ht3⟩ : ∃ t3, t3 = atN F q (ansL g r) 0 i := ⟨_, rfl⟩
  obtain ⟨e3, he3⟩ : ∃ e3, e3 = enN F q (ansL g r) 0 false i := ⟨_, rfl⟩
  rw [← ht3, ← he3] at H6 ⊢
  obtain ⟨L1, hL1⟩ : ∃ L1, L1 = triedN F q (ansL g k) 0 i1 := ⟨_, rfl⟩
  obtain ⟨L2, hL2⟩ : ∃ L2, L2 = triedN F q (ansL (later g k) (r - k)) t1 i2 := ⟨_, rfl⟩
  obtain ⟨L3, hL3⟩ : ∃ L3, L3 = triedN F q (ansL g r) 0 i := ⟨_, rfl⟩
  have hl1 : L1.length = i1 := by rw [hL1, triedN_len]
  have hl2 : L2.length = i2 := by rw [hL2, triedN_len]
  have hl3 : L3.length = i := by rw [hL3, triedN_len]
  rw [← hL1, ← hL2] at H6
  rw [← hL3] at g6
  rw [← hL1, ← hL2, ← hL3] at htr
  have z7 := gr_alloc (gr_call H6.out.1 g7) (.cells #[.slice B7 q d7, .int .i64 (t3 : Int), .bool e3] 30)
  have al : Below W7.heap.size W7 (W7.alloc (.cells #[.slice B7 q d7, .int .i64 (t3 : Int), .bool e3] 30)) := gr_alloc (Below.refl _ _) _
  have zB := gr_call g7 al
  have p6 := H6.out.2.2.2.1.call zB
  have p7 := Blk.new W7 30 #[.slice B7 q d7, .int .i64 (t3 : Int), .bool e3]
  have x0 := p6.cell' (i := 0) rfl
  have x1 := p6.cell' (i := 1) rfl
  have x2 := p6.cell' (i := 2) rfl
  have xl := p6.lt
  have y0 := p7.cell' (i := 0) rfl
  have y1 := p7.cell' (i := 1) rfl
  have y2 := p7.cell' (i := 2) rfl
  have yl := p7.lt
  have H7 := Lib.hid (And.intro z7 (And.intro (H6.out.2.1.call zB) (And.intro p7 (And.intro (g4.below al) (And.intro g5 (And.intro (own_below g6 al (Nat.le_refl _)) (And.intro (own_below H6.out.2.2.1 zB (Nat.le_refl _)) (And.intro (own_below H6.out.2.2.2.2.2.2.1 zB (Nat.le_refl _)) (And.intro (H6.out.2.2.2.2.1.below zB) (gr_call (gr_call H5.out.2.2.2.1 H6.out.2.2.2.2.2.2.2) zB))))))))))
  have HT := Lib.hid (And.intro ht3 (And.intro he3 (And.intro hL3 (And.intro htr (And.intro g1 (And.intro g2 (And.intro g3 (And.intro hl1 (And.intro hl2 (And.intro hl3 hii))))))))))
  have HSZ : Hid (W4.heap.size < W7.heap.size) := Lib.hid (by have h1 := (H6.out.2.1.call g7).lt; exact h1)
  clear g1 g2 g3 g4 g5 g6 g7 hat hen htr z7 al zB p6 p7 v0 v1 v2 vl ht3 he3 hL1 hL2 hL3 hl1 hl2 hl3 HG hii
  go_wp2_with (fail)
  refine (sameP F B6 B7 q d6 d7 (t3 : Int) e3 (by omega) _ H7.out.2.2.2.2.2.2.2.2.1 H7.out.2.2.2.1).mono ?_
  rintro e W8 ⟨rfl, k8⟩
  have hi1r : i1 ≤ 40 := by have := H5.out.1; omega
  have q1 := (own_ints HT.out.2.2.2.2.2.2.2.1.symm (own_below H7.out.2.2.2.2.2.2.1 k8 (Nat.le_refl _)))
  rw [HT.out.2.2.2.2.2.2.2.1] at q1
  obtain ⟨_, _, q1e, q1c, q1o⟩ := q1
  cases q1e
  have hk1 := kownInts L1 va5 vc5 (by rw [HT.out.2.2.2.2.2.2.2.1]; omega) W8 (by rw [HT.out.2.2.2.2.2.2.2.1]; exact q1o) (by rw [HT.out.2.2.2.2.2.2.2.1]; exact q1c)
  rw [HT.out.2.2.2.2.2.2.2.1] at hk1
  have HK1 := Lib.hid hk1
  clear hk1 q1c q1o
  have H8 := Lib.hid (And.intro (gr_call H7.out.1 k8) (And.intro (H7.out.2.1.call k8) (And.intro (H7.out.2.2.1.call k8) (And.intro (H7.out.2.2.2.1.below k8) (And.intro H7.out.2.2.2.2.1 (And.intro (own_below H7.out.2.2.2.2.2.1 k8 (Nat.le_refl _)) (And.intro (own_below H7.out.2.2.2.2.2.2.2.1 k8 (Nat.le_refl _)) (gr_call H7.out.2.2.2.2.2.2.2.2.2 k8))))))))
  clear H7 k8 x0 x1 x2 xl y0 y1 y2 yl H6
  go_wp2_with (fail)
  refine HK1.out.mono ?_
  rintro e W9 ⟨v9, rfl, o9, k9⟩
  obtain ⟨va9, vc9, rfl⟩ := own_slice o9
  have q2 := (own_ints HT.out.2.2.2.2.2.2.2.2.1.symm (own_below H8.out.2.2.2.2.2.2.1 k9 (Nat.le_refl _)))
  rw [HT.out.2.2.2.2.2.2.2.2.1] at q2
  obtain ⟨_, _, q2e, q2c, q2o⟩ := q2
  cases q2e
  have hi2r : i2 ≤ 40 := by have h1 := HT.out.2.2.2.2.1; have h2 := HT.out.2.2.2.2.2.2.2.2.2.2; omega
  have H9 := Lib.hid (And.intro (gr_call H8.out.1 k9) (And.intro (H8.out.2.1.call k9) (And.intro (H8.out.2.2.1.call k9) (And.intro (H8.out.2.2.2.1.below k9) (And.intro H8.out.2.2.2.2.1 (And.intro (own_below H8.out.2.2.2.2.2.1 k9 (Nat.le_refl _)) (And.intro (gr_call H8.out.2.2.2.2.2.2.2 k9) (And.intro o9 (And.intro q2c (And.intro q2o H8.out.1))))))))))
  have hsz9 : W8.heap.size ≤ W9.heap.size := k9.size
  have HK9 := Lib.hid k9
  clear k9 o9 q2c q2o HK1
  obtain ⟨j0, hj0, hz0, hz1, hz2⟩ := info_parts infoInt
  go_wp2_with (at_builtin; refine wpList_guard (by rfl) ?_; refine append_more rfl _ _ 40 rfl W8.heap.size 3 j0 _ 1 8 Tryd.underlying40 hj0 hz0 hz1 hz2 rfl (by decide) _ rfl i1 (intL L1) H9.out.2.2.2.2.2.2.2.1 va6 i2 vc6 (intsAt (L2.map fun (k : Nat) => (k : Int))) rfl H9.out.2.2.2.2.2.2.2.2.2.1 H9.out.2.2.2.2.2.2.2.2.1 ?d1 ?d2 ?d3 hsz9 ?_)
  case d1 => intro i j; rfl
  case d2 => unfold maxLen; omega
  case d3 => omega
  intro v10 W10 o10 g10
  have g10b : Below W8.heap.size W9 W10 := (Below.refl W8.heap.size W9).grown g10 (by exact hsz9) (fun p hp => (H9.out.2.2.2.2.2.2.2.1.lt p hp).1)
  have k10 := HK9.out.trans g10b
  have hfl := intL_flat L2
  rw [HT.out.2.2.2.2.2.2.2.2.1] at hfl
  rw [hfl, show intL L1 ++ intL L2 = intL L3 by rw [HT.out.2.2.2.1]; simp [intL], ← HT.out.2.2.2.2.2.2.2.2.2.2] at o10
  have q1 := own_ints HT.out.2.2.2.2.2.2.2.2.2.1.symm o10
  have o7 := own_below H8.out.2.2.2.2.2.1 k10 (Nat.le_refl _)
  have q2 := own_ints HT.out.2.2.2.2.2.2.2.2.2.1.symm o7
  rw [HT.out.2.2.2.2.2.2.2.2.2.1] at q1 q2
  obtain ⟨va10, vc10, rfl, q1c, _⟩ := q1
  obtain ⟨_, _, q2e, q2c, _⟩ := q2
  cases q2e
  have hmap : (L3.map fun (k : Nat) => (k : Int)).length = i := by rw [List.length_map]; exact HT.out.2.2.2.2.2.2.2.2.2.1
  have hir : i ≤ r := HT.out.2.2.2.2.1
  have hk2 := sameInts (L3.map fun (k : Nat) => (k : Int)) (L3.map fun (k : Nat) => (k : Int)) va10 va7 vc10 vc7 (by omega) (by omega) W10 (by rw [hmap]; exact q1c) (by rw [hmap]; exact q2c)
  rw [hmap, decide_eq_true rfl] at hk2
  have HK2 := Lib.hid hk2
  have H10 := Lib.hid (And.intro (gr_call H8.out.1 k10) (And.intro (H8.out.2.1.call k10) (And.intro (H8.out.2.2.1.call k10) (And.intro (H8.out.2.2.2.1.below k10) (And.intro H8.out.2.2.2.2.1 (And.intro o7 (gr_call H8.out.2.2.2.2.2.2.2 k10)))))))
  clear hk2 q1c q2c k10 o7 o10 g10 g10b hfl hsz9 H8 H9 HK9 hmap hj0 hz0 hz1 hz2
  go_wp2_with (fail)
  refine HK2.out.mono ?_
  rintro e W11 ⟨rfl, k11⟩
  have H11 := Lib.hid (And.intro (gr_call H10.out.1 k11) (And.intro (H10.out.2.1.call k11) (And.intro (H10.out.2.2.1.call k11) (And.intro (H10.out.2.2.2.1.below k11) (And.intro H10.out.2.2.2.2.1 (And.intro (own_below H10.out.2.2.2.2.2.1 k11 (Nat.le_refl _)) (gr_call H10.out.2.2.2.2.2.2 k11)))))))
  clear H10 k11 HK2
  have hnr : ¬ ((r : Int) < (i : Int)) := by omega
  have hnr2 : decide (r < i) = false := by simp; omega
  go_wp2_with (fail)
  have HS7 : Hid (W7.heap.size ≠ W4.heap.size) := Lib.hid (by have := HSZ.out; omega)
  go_loopw [21] (fun x wr => PartsRel F q g r i t3 e3 L3 B7 d7 va7 vc7 WB.heap.size w W4 W4.heap.size W7.heap.size x wr) (fun x _ => i - (intOf x).toNat)
  case atStart => exact ⟨0, Nat.zero_le _, rfl, H11.out.1, H4w.out.2.2.trans (H11.out.2.2.2.2.2.2.mono (by have := HS0.out; omega)), H11.out.2.2.2.2.2.1, H11.out.2.2.1, H11.out.2.2.2.1, B4, d4, H11.out.2.1, H4.out.2.2.1.below H11.out.2.2.2.2.2.2, H4.out.2.2.2.1⟩
  case round =>
    clear hnr hnr2
    obtain ⟨j, hj, rfl, hb, hb4, how, hc, hB7, Bj, dj, hp, hBj, hOj⟩ := hrel
    by_cases hlt : j < i
    · have q2 := own_ints HT.out.2.2.2.2.2.2.2.2.2.1.symm how
      rw [HT.out.2.2.2.2.2.2.2.2.2.1] at q2
      obtain ⟨_, _, q2e, q2c, _⟩ := q2
      cases q2e
      obtain ⟨ab, ao, rfl, had, hcl⟩ := q2c (by omega)
      obtain ⟨hjt, hjd, hja⟩ := HT.out.2.2.2.2.2.2.1 j hlt
      have c0 : wr.cell? ⟨ab, ao + j, none⟩ = some (.int .i64 (atN F q (ansL g r) 0 j : Int)) := by
        have h1 := hcl j 0 hlt (by decide)
        rw [Nat.mul_one, Nat.add_zero] at h1
        rw [h1, HT.out.2.2.1]
        show some (Value.int .i64 (((triedN F q (ansL g r) 0 i).map fun (k : Nat) => (k : Int)).getD j 0)) = _
        simp [triedN, List.getD, hlt]
      obtain ⟨cb, co, rfl, hcd, hcc⟩ := (H4w.out.2.1.below hb4) (show 0 < r by have := HT.out.2.2.2.2.1; omega)
      have c1 : wr.cell? ⟨cb, co + j, none⟩ = some (.bool (g j)) := by
        have h1 := hcc j 0 (by have := HT.out.2.2.2.2.1; omega) (by decide)
        rw [Nat.mul_one, Nat.add_zero] at h1
        exact h1
      have hej : enN F q (ansL g r) 0 false j = false := en_false (fun _ => rfl) (fun a ha => HT.out.2.2.2.2.2.2.1 a (by omega)) hjt
      have hat := at_succ (F := F) (n := q) (ans := ansL g r) (a0 := 0) (i := j) (ansL_some (show j < r by have := HT.out.2.2.2.2.1; omega))
      have hen := en_succ (F := F) (n := q) (ans := ansL g r) (a0 := 0) (e0 := false) (i := j) (ansL_some (show j < r by have := HT.out.2.2.2.2.1; omega))
      have hpj : passE F q (atN F q (ansL g r) 0 j : Int) false = 0 := by have := passE_at (F := F) (n := q) (ans := ansL g r) (i := j) HF.out.2 (fun a ha => HT.out.2.2.2.2.2.2.1 a (by omega)); rw [hej] at this; exact this
      have hav : afterV F q (atN F q (ansL g r) 0 j : Int) (g j) = (nextP F q (atN F q (ansL g r) 0 j) (g j) : Int) := by unfold afterV; rw [if_pos ⟨HF.out.2, by omega, by omega⟩, Int.toNat_natCast]
      have hae : afterE F q (atN F q (ansL g r) 0 j : Int) = 0 := by unfold afterE; rw [if_pos HF.out.2, if_pos ⟨by omega, by omega⟩]
      rw [hej] at hp
      clear hej hjd hja hcl hcc q2c
      rw [← hat] at hav
      generalize hh : g j = h at c1 hat hen hav
      generalize htj : atN F q (ansL g r) 0 j = t at c0 hp hat hen hpj hav hae hjt
      obtain ⟨nt, oe, hat2, hen2, hnx⟩ : ∃ (nt : Nat) (oe : Bool), nextP F q t h = nt ∧ overP F t h = oe ∧ ∀ (B : Option Addr) (d : Nat) (W : World), Tabs W → ArgOk B q d → Cells W B 10 q (flgAt F) → Calls Tryd.prog 22 #[.agg #[.slice B q d, .int .i64 (t : Int), .bool false], .bool h] W fun e W' => ∃ B d, e = .returned (.tuple #[.agg #[.slice B q d, .int .i64 (nt : Int), .bool oe], .int .i64 0]) ∧ Cells W' B 10 q (flgAt F) ∧ ArgOk B q d ∧ Below W.heap.size W W' :=
        ⟨_, _, rfl, rfl, fun B d W h1 h2 h3 => pnext_ok F HF.out.1 B q d t h (by omega) hjt W h1 h2 h3 hpj⟩
      rw [hat2] at hat
      rw [hen2] at hen
      rw [hat] at hav
      have HN := Lib.hid (And.intro hat (And.intro hen (And.intro hnx (And.intro hav (And.intro hae hjt)))))
      clear hat2 hen2 hnx
      have hi40 : i ≤ 40 := by have := HT.out.2.2.2.2.1; omega
      have y0 := hp.cell' (i := 0) rfl
      have y1 := hp.cell' (i := 1) rfl
      have y2 := hp.cell' (i := 2) rfl
      have yl := hp.lt
      have HR := Lib.hid (And.intro hb (And.intro hb4 (And.intro how (And.intro hc (And.intro hB7 (And.intro hp (And.intro hBj hOj)))))))
      have HH := Lib.hid hh
      clear hat hen hpj hav hae hb hb4 how hc hB7 hp hBj hOj hh htj hjt
      have hz6 : (j : Int) < (i : Int) := by omega
      go_wp2_with (fail)
      go_quiet (fail)
      go_wp2_with (fail)
      have hX : Below w.heap.size w (wr.drewN nq) ∧ Below W4.heap.size W4 (wr.drewN nq) ∧ (wr.drewN nq).ownsRow WB.heap.size 3 1 (.slice (some ⟨ab, ao, none⟩) i vc7) i (intL L3) ∧ Blk (wr.drewN nq) W7.heap.size 30 #[.slice B7 q d7, .int .i64 (t3 : Int), .bool e3] ∧ Cells (wr.drewN nq) B7 10 q (flgAt F) ∧ Blk (wr.drewN nq) W4.heap.size 30 #[.slice Bj q dj, .int .i64 (t : Int), .bool false] ∧ Cells (wr.drewN nq) Bj 10 q (flgAt F) ∧ ArgOk Bj q dj :=
        ⟨below_drewN HR.out.1 _, below_drewN HR.out.2.1 _, own_drewN HR.out.2.2.1 _, HR.out.2.2.2.1, HR.out.2.2.2.2.1, HR.out.2.2.2.2.2.1, HR.out.2.2.2.2.2.2.1, HR.out.2.2.2.2.2.2.2⟩
      have c1x : (wr.drewN nq).cell? ⟨cb, co + j, none⟩ = some (.bool h) := c1
      have y0x : (wr.drewN nq).cell? ⟨W4.heap.size, 0, none⟩ = _ := y0
      have y1x : (wr.drewN nq).cell? ⟨W4.heap.size, 1, none⟩ = _ := y1
      have y2x : (wr.drewN nq).cell? ⟨W4.heap.size, 2, none⟩ = _ := y2
      have ylx : W4.heap.size < (wr.drewN nq).heap.size := yl
      clear c0 c1 y0 y1 y2 yl
      have HX := Lib.hid hX
      clear hX HR
      generalize wr.drewN nq = X at HX c1x y0x y1x y2x ylx ⊢
      have hjr : (j : Int) < (r : Int) := by have := HT.out.2.2.2.2.1; omega
      go_region_with (go_at_call 11; refine (pafter F HF.out.1 B q d (t : Int) (by have := HN.out.2.2.2.2.2; omega) h (by omega) X.drew (HA.out.2.2.1.below (gr_drew HX.out.1) (Nat.le_refl _)) H3o.out (H4w.out.1.below (gr_drew HX.out.2.1))).mono ?_; rintro e X1 ⟨rfl, m1⟩)
      all_goals
        rw [HN.out.2.2.2.1, HN.out.2.2.2.2.1]
        have m2 := gr_call (gr_drew (Below.refl X.heap.size X)) m1
        have hX2 : Below w.heap.size w X1 ∧ Below W4.heap.size W4 X1 ∧ X1.ownsRow WB.heap.size 3 1 (.slice (some ⟨ab, ao, none⟩) i vc7) i (intL L3) ∧ Blk X1 W7.heap.size 30 #[.slice B7 q d7, .int .i64 (t3 : Int), .bool e3] ∧ Cells X1 B7 10 q (flgAt F) ∧ Blk X1 W4.heap.size 30 #[.slice Bj q dj, .int .i64 (t : Int), .bool false] ∧ Cells X1 Bj 10 q (flgAt F) ∧ ArgOk Bj q dj :=
          ⟨gr_call HX.out.1 m2, gr_call HX.out.2.1 m2, own_below HX.out.2.2.1 m2 (Nat.le_refl _), HX.out.2.2.2.1.call m2, HX.out.2.2.2.2.1.below m2, HX.out.2.2.2.2.2.1.call m2, HX.out.2.2.2.2.2.2.1.below m2, HX.out.2.2.2.2.2.2.2⟩
        have c1y : X1.cell? ⟨cb, co + j, none⟩ = some (.bool h) := by
          obtain ⟨_, _, e, _, hcc⟩ := (H4w.out.2.1.below hX2.2.1) (show 0 < r by have := HT.out.2.2.2.2.1; omega)
          cases e
          have h1 := hcc j 0 (by have := HT.out.2.2.2.2.1; omega) (by decide)
          rw [Nat.mul_one, Nat.add_zero] at h1
          rw [← HH.out]
          exact h1
        have HY := Lib.hid hX2
        have z0 := hX2.2.2.2.2.2.1.cell' (i := 0) rfl
        have z1 := hX2.2.2.2.2.2.1.cell' (i := 1) rfl
        have z2 := hX2.2.2.2.2.2.1.cell' (i := 2) rfl
        have zl := hX2.2.2.2.2.2.1.lt
        clear hX2 m2 m1 c1x y0x y1x y2x ylx HX
        go_wp2_with (fail)
        go_region_with (go_at_call 22; refine (HN.out.2.2.1 Bj dj X1.drew (HA.out.2.2.1.below (gr_drew HY.out.1) (Nat.le_refl _)) HY.out.2.2.2.2.2.2.2 HY.out.2.2.2.2.2.2.1).mono ?_; rintro e X2 ⟨B', d', rfl, n1, n2, n3⟩; have yp := Blk.call (Blk.drew HY.out.2.2.2.2.2.1) n3; have yf0 := yp.frozen 0; have yf1 := yp.frozen 1; have yf2 := yp.frozen 2; have yy0 := yp.cell' (i := 0) rfl; have yy1 := yp.cell' (i := 1) rfl; have yy2 := yp.cell' (i := 2) rfl; have yyl := yp.lt)
        all_goals
          have n4 := gr_call (gr_drew (Below.refl X1.heap.size X1)) n3
          have hP4 : W4.heap.size ≤ W4.heap.size := Nat.le_refl _
          have hPw : w.heap.size ≤ W4.heap.size := by have := HY.out.1.size; have := HS4.out; omega
          have hZ : PartsRel F q g r i t3 e3 L3 B7 d7 (some ⟨ab, ao, none⟩) vc7 WB.heap.size w W4 W4.heap.size W7.heap.size (.int .i64 ((j : Int) + 1)) (((X2.setCell ⟨W4.heap.size, 0, none⟩ (.slice B' q d')).setCell ⟨W4.heap.size, 1, none⟩ (.int .i64 (nt : Int))).setCell ⟨W4.heap.size, 2, none⟩ (.bool oe)) :=
            ⟨j + 1, by omega, by rw [Int.natCast_add]; rfl, gr_set (gr_set (gr_set (gr_call HY.out.1 n4) hPw _) hPw _) hPw _, gr_set (gr_set (gr_set (gr_call HY.out.2.1 n4) hP4 _) hP4 _) hP4 _, own_pass3 (own_below HY.out.2.2.1 n4 (Nat.le_refl _)) yp (by decide) _ _ _,
              (((HY.out.2.2.2.1.call n4).far (p := ⟨W4.heap.size, 0, none⟩) HS7.out _).far (p := ⟨W4.heap.size, 1, none⟩) HS7.out _).far (p := ⟨W4.heap.size, 2, none⟩) HS7.out _, cells_pass3 (HY.out.2.2.2.2.1.below n4) yp _ _ _, B', d', by rw [HN.out.1, HN.out.2.1]; exact blk_pass3 yp _ _ _, cells_pass3 n1 yp _ _ _, n2⟩
          have HZ := Lib.hid hZ
          clear hZ n1 n2 n3 n4 yp HY
          go_wp2_with (fail)
          exact ⟨HZ.out, by simp [intOf]; omega⟩
    · obtain rfl : j = i := by omega
      have hX : ¬ ((j : Int) < (j : Int)) := by omega
      rw [← HT.out.1, ← HT.out.2.1] at hp
      have y0 := hp.cell' (i := 0) rfl
      have y1 := hp.cell' (i := 1) rfl
      have y2 := hp.cell' (i := 2) rfl
      have yl := hp.lt
      have z0 := hc.cell' (i := 0) rfl
      have z1 := hc.cell' (i := 1) rfl
      have z2 := hc.cell' (i := 2) rfl
      have zl := hc.lt
      have HR := Lib.hid (And.intro hb (And.intro hBj hB7))
      clear hb hb4 how hc hB7 hp hBj hOj hlt
      go_wp2_with (fail)
      refine (sameP F Bj B7 q dj d7 (t3 : Int) e3 (by omega) _ HR.out.2.1 HR.out.2.2).mono ?_
      rintro e X1 ⟨rfl, m1⟩
      have HR2 := Lib.hid (gr_call HR.out.1 m1)
      clear m1
      go_wp2_with (fail)
      refine (awake _ (HA.out.2.2.1.below HR2.out (Nat.le_refl _))).mono ?_
      rintro e X2 ⟨rfl, m2⟩
      have HR3 := Lib.hid (gr_call HR2.out m2)
      clear m2
      go_wp2_with (fail)
      go_ret
      exact ⟨rfl, HR3.out⟩
end Go.Proofs.YtjkmkpehnnkpiaaDoor
