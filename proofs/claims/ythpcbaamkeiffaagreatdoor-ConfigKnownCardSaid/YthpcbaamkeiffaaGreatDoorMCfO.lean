/-
  options of config's reader without flags, walked; conditions: sizes.
  config.Segments, walked; condition: the string's size.
  read of config's reader, walked: numbers; conditions: sizes.
  read of config's reader, walked: directories; how the reader's memory grows; conditions: sizes.
-/
import Derived.Lib.SplitLaws
import Derived.Deep.RegionHeldLaw
import Derived.Test.YthpcbaamkeiffaaGreatDoorMCfK
import Derived.Test.YthpcbaamkeiffaaGreatDoorMCfJ
import Derived.Test.YthpcbaamkeiffaaGreatDoorMFtH
namespace Go.Proofs.YthpcbaamkeiffaaGreatDoor
open Go.RowKit Go.Shelf
set_option linter.unusedVariables false
set_option linter.unusedSimpArgs false

structure OptBt (W1 : World) (g : Nat) (T : TypeId) (cs : Array Value) (ws : List Wd) (bn bs : Nat) (nm : List ByteArray) (wr : World) (u : Nat) (set : List Bool) : Prop where
  cur : CurAt wr g T (cs.setIfInBounds 3 (.int .i64 (u : Int))) ws u
  names : Blk wr bn 9 (nm.map Value.string).toArray
  bits : Blk wr bs 4 (boolA set)
  gr : W1.grownBy wr (some g)
  hs : W1.heap.size ≤ bs
theorem OptBt.below {W1 : World} {g : Nat} {T : TypeId} {cs : Array Value} {ws : List Wd} {bn bs : Nat} {nm : List ByteArray} {wr w' : World} {u : Nat} {set : List Bool} (h : OptBt W1 g T cs ws bn bs nm wr u set) (hb : Below wr.heap.size wr w') : OptBt W1 g T cs ws bn bs nm w' u set :=
  ⟨h.cur.below hb, h.names.call hb, h.bits.call hb, only_trans h.gr (only_of_below hb _), h.hs⟩
theorem OptBt.next {W1 : World} {g : Nat} {cs : Array Value} {ws : List Wd} {bn bs : Nat} {nm : List ByteArray} {wr w' : World} {u : Nat} {set : List Bool} (h : OptBt W1 g 92 cs ws bn bs nm wr u set) (hg : wr.grownBy w' (some g))
    (hc : CurAt w' g 92 ((cs.setIfInBounds 3 (.int .i64 (u : Int))).setIfInBounds 3 (.int .i64 ((u + 1 : Nat) : Int))) ws (u + 1)) : OptBt W1 g 92 cs ws bn bs nm w' (u + 1) set := by
  have n1 : bn ≠ g := h.names.ne_ h.cur.blk (by decide)
  have n2 : bs ≠ g := h.bits.ne_ h.cur.blk (by decide)
  exact ⟨curAt_again hc, h.names.grown hg (by simpa using n1), h.bits.grown hg (by simpa using n2), only_trans h.gr hg, h.hs⟩
theorem OptBt.bit {W1 : World} {g : Nat} {T : TypeId} {cs : Array Value} {ws : List Wd} {bn bs : Nat} {nm : List ByteArray} {wr : World} {u : Nat} {set : List Bool} (h : OptBt W1 g T cs ws bn bs nm wr u set) (hg : g < W1.heap.size) (k : Nat) (b : Bool) :
    OptBt W1 g T cs ws bn bs nm (wr.setCell ⟨bs, k, none⟩ (.bool b)) u (set.set k b) := by
  have n1 : bn ≠ bs := h.names.ne_ h.bits (by decide)
  refine ⟨h.cur.far (by show g < bs; have := h.hs; omega) _, h.names.far n1 _, ?_, only_setCell h.gr (Or.inr h.hs) _, h.hs⟩
  rw [← boolA_set]
  exact h.bits.set_ k _
/-- The post of options without flags. -/
def OptsC (W1 : World) (g : Nat) (T : TypeId) (cs : Array Value) (ws : List Wd) (bs n : Nat) (r : Option (List Bool × Flg) × Int × Int) (e : Ending) (W' : World) : Prop :=
  (match r with
  | (some (set, _), _) => e = .returned (.tuple #[.slice (some ⟨bs, 0, none⟩) n n, .bool true]) ∧ CurAt W' g T (cs.setIfInBounds 3 (.int .i64 (ws.length : Int))) ws ws.length ∧ Blk W' bs 4 (boolA set) ∧ set.length = n
  | (none, er, a) => e = .returned (.tuple #[.slice none 0 0, .bool false]) ∧ ∃ u : Nat, Blk W' g T (((cs.setIfInBounds 3 (.int .i64 (u : Int))).setIfInBounds 4 (.int .i64 er)).setIfInBounds 5 (.int .i64 a))) ∧ W1.grownBy W' (some g)
set_option maxRecDepth 100000 in
set_option maxHeartbeats 8000000 in
theorem opts_cond (W1 : World) (g : Nat) (cs : Array Value) (ws : List Wd) (bn : Nat) (w : World) (hg : g < W1.heap.size)
    (hgr : W1.grownBy w (some g)) (hc : CurAt w g 92 (cs.setIfInBounds 3 (.int .i64 3)) ws 3) (hn : Blk w bn 9 #[.string sNot, .string sNocase, .string sOr])
    (h4 : cs[4]? = some (.int .i64 0)) (h3 : 3 ≤ ws.length) (hl : ws.length ≤ 100000) (hs : ∀ d ∈ ws, d.t.size ≤ 100000 ∧ 0 ≤ d.a ∧ d.a ≤ 1000000000) :
    Calls Tryz.prog 126 #[.pointer (some ⟨g, 0, none⟩), .slice (some ⟨bn, 0, none⟩) 3 3, .pointer none] w
      (OptsC W1 g 92 cs ws w.heap.size 3 (optsP condL false (ws.drop 3) [false, false, false] 0 false zeroF)) := by
  have hmk := mk_bool3 w
  obtain ⟨R, hR⟩ : ∃ R, R = optsP condL false (ws.drop 3) [false, false, false] 0 false zeroF := ⟨_, rfl⟩
  rw [← hR]
  have hb0 : Below w.heap.size w (w.alloc (.cells #[.bool false, .bool false, .bool false] 4)) := gr_alloc (Below.refl _ _) _
  have h0 : OptBt W1 g 92 cs ws bn w.heap.size condL (w.alloc (.cells #[.bool false, .bool false, .bool false] 4)) 3 [false, false, false] :=
    ⟨hc.below hb0, hn.call hb0, Blk.new _ _ _, only_trans hgr (only_of_below hb0 _), hgr.size⟩
  have HA := Lib.hid (And.intro h0 (And.intro trivial (And.intro hs (And.intro h4 hR))))
  clear hc hn hgr hb0 h0 hs h4 hR
  go_enter Tryz.func126, Tryz.ntmps126
  go_wp2_with (fail)
  obtain ⟨bs, hbs⟩ : ∃ b, b = w.heap.size := ⟨_, rfl⟩
  obtain ⟨nl, hnl⟩ : ∃ n, n = ws.length := ⟨_, rfl⟩
  go_loopg [9, 10] (nl - 3) (fun m nv hv wr => ∃ (u : Nat) (set : List Bool) (nx : Nat) (had : Bool), had = false ∧ m = nl - u ∧ 3 ≤ u ∧ u ≤ nl ∧ nv = .int .i64 (nx : Int) ∧ hv = .bool had ∧ R = optsP condL false (ws.drop u) set nx had zeroF ∧ set.length = 3 ∧ nx ≤ 3 ∧ OptBt W1 g 92 cs ws bn w.heap.size condL wr u set)
  case atStart => exact ⟨3, [false, false, false], 0, false, rfl, rfl, Nat.le_refl _, by omega, rfl, rfl, HA.out.2.2.2.2, rfl, by omega, HA.out.1⟩
  case round =>
    obtain ⟨u, set, nx, had, rfl, hm, h3u, hun, rfl, rfl, hRu, hsl, hnx, ho⟩ := hrel
    have hleft := left_code g _ _ ws u wr ho.cur (by omega) (by omega)
    have hgl := ho.cur.blk.lt
    by_cases hlt : u < nl
    · obtain ⟨d, hd⟩ : ∃ d, ws[u]? = some d := ⟨_, List.getElem?_eq_getElem (by omega)⟩
      have hds := HA.out.2.2.1 d (List.mem_of_getElem? hd)
      have hdrop := drop_l hd
      rw [hdrop] at hRu
      rw [← hnl] at hleft
      have hgt : (0 : Int) < (nl : Int) - u := by omega
      have F := Lib.hid (And.intro hm (And.intro hRu (And.intro hsl (And.intro hd (And.intro ho hds)))))
      clear hm hRu hsl hd hdrop hds ho
      go_wp2_with (fail)
      refine hleft.mono ?_
      rintro e W ⟨rfl, q, rfl⟩
      clear hleft
      have hoq := F.out.2.2.2.2.1.below (below_drewN (Below.refl _ _) q)
      have hnx1 := next_code g _ _ ws u d _ hoq.cur (by omega) F.out.2.2.2.1
      have Q := Lib.hid hoq
      clear hoq
      go_wp2_with (fail)
      refine hnx1.mono ?_
      rintro e W2 ⟨rfl, hc2, hg2⟩
      clear hnx1
      have ho2 := Q.out.next hg2 hc2
      have hbo : Below W2.heap.size W2 (W2.alloc (.cells #[.int .i64 d.a, .string d.t, .bool d.q] 116)) := gr_alloc (Below.refl _ _) _
      have hx3 : Blk (W2.alloc (.cells #[.int .i64 d.a, .string d.t, .bool d.q] 116)) W2.heap.size 116 #[.int .i64 d.a, .string d.t, .bool d.q] := Blk.new _ _ _
      have ho3 := ho2.below hbo
      have x0 : (W2.alloc (.cells #[.int .i64 d.a, .string d.t, .bool d.q] 116)).cell? ⟨W2.heap.size, 0, none⟩ = some (.int .i64 d.a) := hx3.cell' (i := 0) rfl
      have x1 : (W2.alloc (.cells #[.int .i64 d.a, .string d.t, .bool d.q] 116)).cell? ⟨W2.heap.size, 1, none⟩ = some (.string d.t) := hx3.cell' (i := 1) rfl
      have x2 : (W2.alloc (.cells #[.int .i64 d.a, .string d.t, .bool d.q] 116)).cell? ⟨W2.heap.size, 2, none⟩ = some (.bool d.q) := hx3.cell' (i := 2) rfl
      have xl := hx3.lt
      have hgl := ho3.cur.blk.lt
      have O := Lib.hid (And.intro ho3 hx3)
      clear hc2 hg2 ho2 hbo ho3 hx3 Q
      go_wp2_with (fail)
      obtain ⟨W3, hW3⟩ : ∃ W3, W3 = W2.alloc (.cells #[.int .i64 d.a, .string d.t, .bool d.q] 116) := ⟨_, rfl⟩
      obtain ⟨bx, hbx⟩ : ∃ b, b = W2.heap.size := ⟨_, rfl⟩
      rw [← hW3] at O x0 x1 x2 xl hgl ⊢
      rw [← hbx] at O x0 x1 x2 xl ⊢
      clear hW3 hbx
      · have hix := idx_code condL d.t _ (by decide) W3 (texts_blk O.out.1.names (n := 3) rfl)
        obtain ⟨i, hi⟩ : ∃ i, i = Lib.idxOfS condL d.t := ⟨_, rfl⟩
        rw [← hi] at hix
        have hRi : R = if i < 0 then (none, 11, d.a) else if i.toNat < nx ∨ false = true then (none, 8, d.a) else optsP condL false (ws.drop (u + 1)) (set.set i.toNat true) (i.toNat + 1) false zeroF := by
          rw [F.out.2.1, optsP, if_neg (fun e => by cases e.1), ← hi]
        have hil : ¬ i < 0 → i.toNat < 3 := by rw [hi]; exact idx_lt
        have HI := Lib.hid (And.intro hRi hil)
        clear hRi hil hi
        go_wp2_with (fail)
        refine hix.mono ?_
        rintro e W4 ⟨rfl, rfl⟩
        clear hix
        have hRi := HI.out.1
        have hil := HI.out.2
        by_cases hi0 : i < 0
        · have hres : R = (none, 11, d.a) := by rw [hRi, if_pos hi0]
          clear hRi hil
          have hf := fun W (h : Blk W g 92 (cs.setIfInBounds 3 (.int .i64 ((u + 1 : Nat) : Int)))) => fails_code g _ _ 11 d.a W h O.out.1.cur.size (by rw [Array.getElem?_setIfInBounds_ne (by decide)]; exact HA.out.2.2.2.1)
          have X := Lib.hid (And.intro hres hf)
          clear hres hf
          go_wp2_with (fail)
          go_still_tail 5, (by kernel_rfl)
          go_wp2_with (fail)
          refine (X.out.2 _ (by exact O.out.1.cur.blk.drewN _)).mono ?_
          rintro e W5 ⟨rfl, hb5, hg5⟩
          have Z := Lib.hid (And.intro hb5 hg5)
          clear hb5 hg5
          go_wp2_with (fail)
          go_ret2
          rw [X.out.1]
          exact ⟨⟨rfl, u + 1, Z.out.1⟩, only_trans (only_drewN O.out.1.gr _) Z.out.2⟩
        · have hi1 := hil (by omega)
          obtain ⟨k, rfl⟩ : ∃ k : Nat, i = (k : Int) := ⟨i.toNat, by omega⟩
          rw [if_neg hi0, Int.toNat_natCast] at hRi
          rw [Int.toNat_natCast] at hi1
          clear hil hi0
          by_cases hkn : k < nx
          · have hres : R = (none, 8, d.a) := by rw [hRi, if_pos (Or.inl hkn)]
            clear hRi
            have hki : (k : Int) < nx := by omega
            have hf := fun W (h : Blk W g 92 (cs.setIfInBounds 3 (.int .i64 ((u + 1 : Nat) : Int)))) => fails_code g _ _ 8 d.a W h O.out.1.cur.size (by rw [Array.getElem?_setIfInBounds_ne (by decide)]; exact HA.out.2.2.2.1)
            have X := Lib.hid (And.intro hres hf)
            clear hres hf
            go_wp2_with (fail)
            go_still_tail 5, (by kernel_rfl)
            go_wp2_with (fail)
            refine (X.out.2 _ (by exact O.out.1.cur.blk.drewN _)).mono ?_
            rintro e W5 ⟨rfl, hb5, hg5⟩
            have Z := Lib.hid (And.intro hb5 hg5)
            clear hb5 hg5
            go_wp2_with (fail)
            go_ret2
            rw [X.out.1]
            exact ⟨⟨rfl, u + 1, Z.out.1⟩, only_trans (only_drewN O.out.1.gr _) Z.out.2⟩
          · have hki : ¬ (k : Int) < nx := by omega
            have hres : R = optsP condL false (ws.drop (u + 1)) (set.set k true) (k + 1) false zeroF := by rw [hRi, if_neg (by intro h; rcases h with h | h; exact hkn h; cases h)]
            clear hRi
            have X := Lib.hid hres
            have hk1i : (k : Int) < 3 := by omega
            obtain ⟨b0, hb0⟩ : ∃ b, set[k]? = some b := ⟨_, List.getElem?_eq_getElem (by have := F.out.2.2.1; omega)⟩
            have kb : W4.cell? ⟨w.heap.size, k, none⟩ = some (.bool b0) := O.out.1.bits.cell' (by unfold boolA; simp [hb0])
            have kf := O.out.1.bits.frozen k
            have kl := O.out.1.bits.lt
            clear hres hb0
            go_wp2_with (fail)
            go_roundg (nl - (u + 1))
            case measure => have := F.out.1; omega
            case rel => exact ⟨u + 1, set.set k true, k + 1, false, rfl, rfl, by omega, by omega, rfl, rfl, X.out, by rw [List.length_set]; exact F.out.2.2.1, by omega, O.out.1.bit hg k true⟩
    · have hue : u = nl := by omega
      rw [← hnl] at hleft
      have hgt : ¬ (0 : Int) < (nl : Int) - u := by omega
      have hRe : R = (some (set, zeroF), 0, 0) := by rw [hRu, List.drop_eq_nil_of_le (by omega)]; rfl
      have F := Lib.hid (And.intro hRe (And.intro hsl (And.intro ho (And.intro hue hnl))))
      clear hm hRu hRe hsl ho hue hnl hlt
      go_wp2_with (fail)
      refine hleft.mono ?_
      rintro e W ⟨rfl, q, rfl⟩
      clear hleft
      go_wp2_with (fail)
      go_ret2
      have ho := F.out.2.2.1.below (below_drewN (Below.refl _ _) q)
      rw [F.out.1]
      refine ⟨⟨rfl, ?_, ho.bits, F.out.2.1⟩, ho.gr⟩
      have := ho.cur
      rw [F.out.2.2.2.1, F.out.2.2.2.2] at this
      exact this
end Go.Proofs.YthpcbaamkeiffaaGreatDoor
namespace Go.Proofs.YthpcbaamkeiffaaGreatDoor
open Go.RowKit Go.Shelf
set_option linter.unusedVariables false
set_option linter.unusedSimpArgs false

theorem split_eq (c : UInt8) : ∀ (m : Nat) (s : ByteArray), s.size ≤ m → Lib.splitB ⟨#[c]⟩ 0 (Lib.countB s ⟨#[c]⟩) s = (splitL c s.data.toList).map mkB := by
  intro m
  induction m with
  | zero =>
    intro s hs
    rcases ixL s c with ⟨h1, h2⟩ | ⟨o, _, ho, _⟩
    · rw [Lib.splitB_miss _ _ _ _ h1, splitL_none h2]
      show [s] = [mkB s.data.toList]
      rw [mkB_of]
    · omega
  | succ m ih =>
    intro s hs
    rcases ixL s c with ⟨h1, h2⟩ | ⟨o, h1, ho, h2, h3⟩
    · rw [Lib.splitB_miss _ _ _ _ h1, splitL_none h2]
      show [s] = [mkB s.data.toList]
      rw [mkB_of]
    · rw [Lib.countB_hit _ ⟨#[c]⟩ o (by show 1 ≤ 1; omega) h1, Nat.add_comm 1, Lib.splitB_hit _ _ _ _ o h1, show (⟨#[c]⟩ : ByteArray).size = 1 from rfl, Nat.add_zero, ih _ (by rw [ext_end_size]; omega), ext_end]
      conv => rhs; rw [h2]
      rw [splitL_hit h3, List.map_cons]
      congr 1
      rw [← ext_take, mkB_of]
theorem segsP_slash : segsP slashB = some [] := by unfold segsP; rw [if_pos (show slashB.data.toList = [47] from rfl)]
theorem segsP_eq (s : ByteArray) (h : s.data.toList ≠ [47]) : segsP s = if Lib.hasPrefix s.data.toList [47] = true ∧ (splitL 47 (Lib.trimPrefix s.data.toList [47])).all (fun p => decide (p ≠ [])) = true then some ((splitL 47 (Lib.trimPrefix s.data.toList [47])).map mkB) else none := by
  unfold segsP
  rw [if_neg h]
  cases e : s.data.toList with
  | nil => rw [if_neg (by intro hh; cases hh.1)]
  | cons c t =>
    have hp : Lib.hasPrefix (c :: t) [47] = decide (c = 47) := by
      by_cases hc : c = 47
      · subst hc; rfl
      · rw [decide_eq_false hc]
        show ((47 : UInt8) == c && List.isPrefixOf [] t) = false
        rw [beq_eq_false_iff_ne.2 (fun e => hc e.symm)]; rfl
    rw [hp]
    by_cases hc : c = 47
    · subst hc
      have ht : Lib.trimPrefix (47 :: t) [47] = t := rfl
      rw [ht, decide_eq_true rfl]
      show (if (47 : UInt8) = 47 ∧ _ then _ else _) = _
      by_cases ha : (splitL 47 t).all (fun p => decide (p ≠ [])) = true
      · rw [if_pos ⟨rfl, ha⟩, if_pos ⟨rfl, ha⟩]
      · rw [if_neg (fun h => ha h.2), if_neg (fun h => ha h.2)]
    · rw [if_neg (by intro hh; rw [decide_eq_false hc] at hh; cases hh.1)]
      show (if c = 47 ∧ _ then _ else _) = _
      rw [if_neg (fun h => hc h.1)]
theorem noEmpty (l : List (List UInt8)) : Lib.containsS (l.map mkB) ⟨#[]⟩ = !(l.all fun p => decide (p ≠ [])) := by
  rw [Bool.eq_iff_iff, Lib.containsS_iff, Bool.not_eq_true', ← Bool.not_eq_true, List.all_eq_true]
  constructor
  · intro h ha
    obtain ⟨p, hp, he⟩ := List.mem_map.1 h
    have := of_decide_eq_true (ha p hp)
    exact this (by rw [← mkB_data p, he])
  · intro h
    by_cases hm : (⟨#[]⟩ : ByteArray) ∈ l.map mkB
    · exact hm
    · exact absurd (fun p hp => by rw [decide_eq_true_eq]; intro e; exact hm (List.mem_map.2 ⟨p, hp, by rw [e]; rfl⟩)) h
/-- What Segments returns. -/
def SegsP (w : World) (B : Nat) (r : Option (List ByteArray)) (e : Ending) (W : World) : Prop :=
  (match r with
  | some l => ∃ v, e = .returned (.tuple #[v, .int .i64 0]) ∧ SegMem W B v l
  | none => e = .returned (.tuple #[.slice none 0 0, .int .i64 3])) ∧ Below w.heap.size w W
set_option maxRecDepth 100000 in
set_option maxHeartbeats 2000000 in
theorem segments_code (s : ByteArray) (B : Nat) (hs : s.size ≤ 1000000) (w : World) (hm : MaxOk w) (hB : B ≤ w.heap.size) : Calls Tryz.prog 22 #[.string s] w (SegsP w B (segsP s)) := by
  by_cases h0 : s = slashB
  · subst h0
    rw [segsP_slash]
    show Calls Tryz.prog 22 #[.string ⟨#[47]⟩] w _
    go_enter Tryz.func22, Tryz.ntmps22
    go_wp2_with (fail)
    go_ret2
    exact ⟨⟨_, rfl, World.ownsRow_nil _ _ _ _⟩, Below.refl _ _⟩
  · have hne : s.data.toList ≠ [47] := fun e => h0 (str_ext e)
    have hd : decide (s = ⟨#[47]⟩) = false := decide_eq_false h0
    have hd' : ¬ s = ⟨#[47]⟩ := h0
    have hd2 : (s.toList == [47]) = false := (str_lit s [47]).trans hd
    have hcp := Tryz.strings_CutPrefix s ⟨#[47]⟩ w
    obtain ⟨rest, hrest⟩ : ∃ r : ByteArray, r = ⟨(Lib.trimPrefix s.data.toList [47]).toArray⟩ := ⟨_, rfl⟩
    have hrl : rest.data.toList = Lib.trimPrefix s.data.toList [47] := by rw [hrest]
    have hrz : rest.size ≤ s.size := by
      rw [← size_data, ← size_data, hrl]
      unfold Lib.trimPrefix
      split
      · rw [List.length_drop]; omega
      · exact Nat.le_refl _
    have hcp : Calls Tryz.prog 54 #[.string s, .string ⟨#[47]⟩] w fun e w' => e = .returned (.tuple #[.string rest, .bool (Lib.hasPrefix s.data.toList [47])]) ∧ w' = w := by rw [hrest]; exact hcp
    obtain ⟨m, hmx⟩ := hm
    have hsp := Tryz.strings_Split rest ⟨#[47]⟩ m w (by omega) hmx (by show 1 ≤ 1; omega)
    have hse := split_eq 47 rest.size rest (Nat.le_refl _)
    have hlen := Lib.splitB_all ⟨#[47]⟩ (by show 1 ≤ 1; omega) 0 _ rest rfl
    rw [hse, hrl] at hsp
    rw [hse, hrl, List.length_map] at hlen
    obtain ⟨L, hL⟩ : ∃ L, L = splitL 47 (Lib.trimPrefix s.data.toList [47]) := ⟨_, rfl⟩
    have hlL := splitL_len 47 (Lib.trimPrefix s.data.toList [47])
    rw [← hrl, size_data] at hlL
    rw [hrl] at hlL
    rw [← hL] at hsp hlen hlL
    rw [← hlen] at hsp
    obtain ⟨n, hn⟩ : ∃ n, n = L.length := ⟨_, rfl⟩
    rw [← hn] at hsp hlL
    have hP := segsP_eq s hne
    rw [← hL] at hP
    have hcells : ((L.map mkB).map Value.string).toArray = (txC (L.map mkB)).toArray := rfl
    have hct : Calls Tryz.prog 56 #[.slice (some ⟨w.heap.size, 0, none⟩) n n, .string ⟨#[]⟩] (w.alloc (.cells (txC (L.map mkB)).toArray 9)) fun e w' => e = .returned (.bool (!(L.all fun p => decide (p ≠ [])))) ∧ w' = w.alloc (.cells (txC (L.map mkB)).toArray 9) := by
      have hb : Blk (w.alloc (.cells (txC (L.map mkB)).toArray 9)) w.heap.size 9 (txC (L.map mkB)).toArray := Blk.new _ _ _
      have h := Tryz.slices_Contains_string w.heap.size 0 n n (L.map mkB) ⟨#[]⟩ (w.alloc (.cells (txC (L.map mkB)).toArray 9)) (by rw [List.length_map, hn]; exact Nat.le_refl _) (by omega) (fun j hj => by
        rw [Nat.zero_add]
        refine hb.cell' ?_
        rw [List.getElem?_toArray]
        unfold txC
        rw [List.getElem?_map, List.getElem?_eq_getElem hj, List.getD_eq_getElem?_getD, List.getElem?_eq_getElem hj]; rfl)
      rw [List.take_of_length_le (by rw [List.length_map, hn]; exact Nat.le_refl _), noEmpty] at h
      exact h
    have hown : SegMem (w.alloc (.cells (txC (L.map mkB)).toArray 9)) B (.slice (some ⟨w.heap.size, 0, none⟩) n n) (L.map mkB) := by
      have h := World.ownsRow_lit (base := B) (e := 9) (size := 1) w (txC (L.map mkB)).toArray n hB (by unfold maxLen; omega) (by rw [List.size_toArray, txC, List.length_map, List.length_map, hn, Nat.mul_one])
      have e : n = (L.map mkB).length := by rw [List.length_map, hn]
      unfold SegMem
      rw [← e]
      exact h
    have hsp : Calls Tryz.prog 55 #[.string rest, .string ⟨#[47]⟩] w fun e w' => e = .returned (.slice (some ⟨w.heap.size, 0, none⟩) n n) ∧ w' = w.alloc (.cells (txC (L.map mkB)).toArray 9) := hsp
    obtain ⟨CA, hCA⟩ : ∃ CA, CA = (txC (L.map mkB)).toArray := ⟨_, rfl⟩
    rw [← hCA] at hsp hct hown
    have H := Lib.hid (And.intro hP hown)
    clear hP hown hrest hrl hrz hse hlen hL hcells hn hne h0 hCA
    cases hpf : Lib.hasPrefix s.data.toList [47] with
    | false =>
      rw [hpf] at hcp
      have hres : segsP s = none := by rw [H.out.1, hpf, if_neg (fun h => by cases h.1)]
      rw [hres]
      clear hres
      go_enter Tryz.func22, Tryz.ntmps22
      go_wp2_with (fail)
      refine hcp.mono ?_
      rintro e W ⟨rfl, rfl⟩
      clear hcp
      go_wp2_with (fail)
      refine hsp.mono ?_
      rintro e W2 ⟨rfl, rfl⟩
      clear hsp hct
      go_wp2_with (fail)
      go_ret2
      exact ⟨rfl, gr_alloc (Below.refl _ _) _⟩
    | true =>
      rw [hpf] at hcp
      cases hall : L.all fun p => decide (p ≠ []) with
      | false =>
        rw [hall] at hct
        have hres : segsP s = none := by rw [H.out.1, hpf, hall, if_neg (fun h => by cases h.2)]
        rw [hres]
        clear hres hall
        go_enter Tryz.func22, Tryz.ntmps22
        go_wp2_with (fail)
        refine hcp.mono ?_
        rintro e W ⟨rfl, rfl⟩
        clear hcp
        go_wp2_with (fail)
        refine hsp.mono ?_
        rintro e W2 ⟨rfl, rfl⟩
        clear hsp
        go_wp2_with (fail)
        refine hct.mono ?_
        rintro e W3 ⟨rfl, rfl⟩
        clear hct
        go_wp2_with (fail)
        go_ret2
        exact ⟨rfl, gr_alloc (Below.refl _ _) _⟩
      | true =>
        rw [hall] at hct
        have hres : segsP s = some (L.map mkB) := by rw [H.out.1, hpf, hall, if_pos ⟨rfl, rfl⟩]
        rw [hres]
        clear hres hall
        go_enter Tryz.func22, Tryz.ntmps22
        go_wp2_with (fail)
        refine hcp.mono ?_
        rintro e W ⟨rfl, rfl⟩
        clear hcp
        go_wp2_with (fail)
        refine hsp.mono ?_
        rintro e W2 ⟨rfl, rfl⟩
        clear hsp
        go_wp2_with (fail)
        refine hct.mono ?_
        rintro e W3 ⟨rfl, rfl⟩
        clear hct
        go_wp2_with (fail)
        go_ret2
        exact ⟨⟨_, rfl, H.out.2⟩, gr_alloc (Below.refl _ _) _⟩
end Go.Proofs.YthpcbaamkeiffaaGreatDoor
namespace Go.Proofs.YthpcbaamkeiffaaGreatDoor
open Go.RowKit Go.Shelf
set_option linter.unusedVariables false
set_option linter.unusedSimpArgs false

/-- What the walks ask of the variables. -/
structure Env (w : World) : Prop where
  tabs : Tabs w
  max : MaxOk w
  num : NumOk w
theorem Env.grown {w0 W W' : World} {g : Nat} (h : Env w0) (hb : Below w0.heap.size w0 W) (hg : w0.heap.size ≤ g) (hr : W.grownBy W' (some g)) : Env W' := by
  have hb2 : Below w0.heap.size w0 W' := hb.grown hr hb.size (fun k hk => by cases hk; exact hg)
  exact ⟨h.tabs.below hb2 (Nat.le_refl _), h.max.below hb2 (Nat.le_refl _), h.num.below hb2⟩
theorem Env.below {w0 W : World} (h : Env w0) (hb : Below w0.heap.size w0 W) : Env W := ⟨h.tabs.below hb (Nat.le_refl _), h.max.below hb (Nat.le_refl _), h.num.below hb⟩
/-- A row is ready to be read: its words are the cursor's, one is used. -/
structure RowAt (w0 : World) (rows : Value) (g : Nat) (W : World) (n : Nat) (wA : Option Addr) (wc : Nat) (x : Rw) (s : Rd) (d r cs pl : Value) (L : Nat) : Prop where
  rd : RdAt w0 rows g W n 1 (.slice wA x.w.length wc) s d r cs pl L
  cells : Cells W wA 3 x.w.length (wdAt x.w)
  far : ∀ a, wA = some a → a.block < g
  size : ∀ q ∈ x.w, q.t.size ≤ 100000 ∧ 0 ≤ q.a ∧ q.a ≤ 1000000000
  len : x.w.length ≤ 100000
theorem RowAt.cur {w0 : World} {rows : Value} {g : Nat} {W : World} {n : Nat} {wA : Option Addr} {wc : Nat} {x : Rw} {s : Rd} {d r cs pl : Value} {L : Nat} (h : RowAt w0 rows g W n wA wc x s d r cs pl L) :
    CurAt W g 92 (rdV rows (.slice wA x.w.length wc) d r cs pl n 1 0 0 s.c.cap s.c.lim) x.w 1 :=
  ⟨h.rd.blk, ⟨wA, _, wc, rfl, rfl, h.cells, h.far⟩, rfl, rfl⟩
/-- What read leaves behind. -/
def ReadP (w0 : World) (rows : Value) (g n : Nat) (vw : Value) (res : Option Rd × Int × Int) (e : Ending) (W' : World) : Prop := match res with
  | (some s', _) => e = .returned (.bool true) ∧ ∃ u d r cs pl L, RdAt w0 rows g W' n u vw s' d r cs pl L
  | (none, er, a) => e = .returned (.bool false) ∧ ∃ cells : Array Value, Blk W' g 92 cells ∧ cells[4]? = some (.int .i64 er) ∧ cells[5]? = some (.int .i64 a) ∧ Below w0.heap.size w0 W'
theorem wdN_at {x : Rw} {i : Nat} (h : i < x.w.length) : x.w[i]? = some (wdN x i) := by
  unfold wdN
  rw [List.getD_eq_getElem?_getD, List.getElem?_eq_getElem h]; rfl
theorem RdMem.cfg {W : World} {B L : Nat} {s s' : Rd} {d r cs pl : Value} (h : RdMem W B L s d r cs pl) (h1 : s'.c.dirs = s.c.dirs) (h2 : s'.c.ros = s.c.ros) (h3 : s'.cds = s.cds) (h4 : s'.pl = s.pl) : RdMem W B L s' d r cs pl :=
  ⟨by rw [h1]; exact h.dirs, by rw [h2]; exact h.ros, by rw [h3]; exact h.cds, by rw [h4]; exact h.pl, h.lb⟩

theorem RdAt.bel' {w0 : World} {rows : Value} {g : Nat} {W W' : World} {n u : Nat} {vw : Value} {s : Rd} {d r cs pl : Value} {L : Nat} (h : RdAt w0 rows g W n u vw s d r cs pl L) (hg : W.grownBy W' (some g)) : Below w0.heap.size w0 W' :=
  h.bel.grown hg h.bel.size (fun k hk => by cases hk; exact h.old)
theorem RdAt.step {w0 : World} {rows : Value} {g : Nat} {W W' : World} {n n' u u' : Nat} {vw vw' : Value} {s s' : Rd} {d r cs pl : Value} {L : Nat} (h : RdAt w0 rows g W n u vw s d r cs pl L) (hg : W.grownBy W' (some g)) (hb : Blk W' g 92 (rdV rows vw' d r cs pl n' u' 0 0 s'.c.cap s'.c.lim))
    (h1 : s'.c.dirs = s.c.dirs) (h2 : s'.c.ros = s.c.ros) (h3 : s'.cds = s.cds) (h4 : s'.pl = s.pl) : RdAt w0 rows g W' n' u' vw' s' d r cs pl L :=
  ⟨hb, (h.mem.grown h.blk reader_not hg).cfg h1 h2 h3 h4, h.bel' hg, h.old, Nat.le_trans h.lw hg.size⟩
set_option maxRecDepth 100000 in
set_option maxHeartbeats 4000000 in
theorem read_cap (w0 : World) (hE : Env w0) (rows : Value) (g n : Nat) (wA : Option Addr) (wc : Nat) (x : Rw) (s : Rd) (d r cs pl : Value) (L : Nat) (W : World) (h : RowAt w0 rows g W n wA wc x s d r cs pl L) (at_ : Int) (hl : 2 ≤ x.w.length) :
    Calls Tryz.prog 102 #[.pointer (some ⟨g, 0, none⟩), .string sCap, .int .i64 at_] W (ReadP w0 rows g n (.slice wA x.w.length wc) (readP 0 s x)) := by
  have hno := number_code g _ _ x.w 1 (wdN x 1) W h.cur (by decide) (wdN_at (by omega)) rfl (by have := h.size (wdN x 1) (List.mem_of_getElem? (wdN_at (by omega))); omega) (fun W' hg => (hE.grown h.rd.bel h.rd.old hg).num)
  obtain ⟨res, hres⟩ : ∃ q, q = numW (wdN x 1) := ⟨_, rfl⟩
  rw [← hres] at hno
  have H := Lib.hid (And.intro h hres)
  clear h hres
  show Calls Tryz.prog 102 #[.pointer (some ⟨g, 0, none⟩), .string ⟨#[99, 97, 112]⟩, .int .i64 at_] W _
  obtain ⟨nw, hnw⟩ : ∃ k, k = x.w.length := ⟨_, rfl⟩
  obtain ⟨post, hpost⟩ : ∃ p, p = ReadP w0 rows g n (.slice wA x.w.length wc) (readP 0 s x) := ⟨_, rfl⟩
  rw [← hpost]
  have HP := Lib.hid hpost
  clear hpost
  go_enter Tryz.func102, Tryz.ntmps102
  go_wp2_with (fail)
  refine hno.mono ?_
  rintro e W2 ⟨hm, hg⟩
  clear hno
  obtain ⟨v, er, a⟩ := res
  cases v with
  | some v =>
    obtain ⟨rfl, hc⟩ := hm
    have c6 : W2.cell? ⟨g, 6, none⟩ = some (.int .i64 s.c.cap) := hc.blk.cell' (i := 6) rfl
    have f6 := hc.blk.frozen 6
    have hgl := hc.blk.lt
    have F := Lib.hid (And.intro hc hg)
    clear hc hg
    go_wp2_with (fail)
    rw [HP.out]
    have hr : readP 0 s x = (some { s with c := { s.c with cap := v } }, 0, 0) := by
      show (match numW (wdN x 1) with | (some n, _) => _ | (none, e) => _) = _
      rw [← H.out.2]
    rw [hr]
    exact ⟨rfl, 2, d, r, cs, pl, L, H.out.1.rd.step (only_setCell F.out.2 (Or.inl rfl) _) (F.out.1.blk.set_ 6 _) rfl rfl rfl rfl⟩
  | none =>
    obtain ⟨rfl, hb⟩ := hm
    have c6 : W2.cell? ⟨g, 6, none⟩ = some (.int .i64 s.c.cap) := hb.cell' (i := 6) rfl
    have f6 := hb.frozen 6
    have hgl := hb.lt
    have F := Lib.hid (And.intro hb hg)
    clear hb hg
    go_wp2_with (fail)
    rw [HP.out]
    have hr : readP 0 s x = (none, er, a) := by
      show (match numW (wdN x 1) with | (some n, _) => _ | (none, e) => _) = _
      rw [← H.out.2]
    rw [hr]
    exact ⟨rfl, _, F.out.1.set_ 6 _, rfl, rfl, H.out.1.rd.bel' (only_setCell F.out.2 (Or.inl rfl) _)⟩
set_option maxRecDepth 100000 in
set_option maxHeartbeats 4000000 in
theorem read_limit (w0 : World) (hE : Env w0) (rows : Value) (g n : Nat) (wA : Option Addr) (wc : Nat) (x : Rw) (s : Rd) (d r cs pl : Value) (L : Nat) (W : World) (h : RowAt w0 rows g W n wA wc x s d r cs pl L) (at_ : Int) (hl : 2 ≤ x.w.length) :
    Calls Tryz.prog 102 #[.pointer (some ⟨g, 0, none⟩), .string sLimit, .int .i64 at_] W (ReadP w0 rows g n (.slice wA x.w.length wc) (readP 1 s x)) := by
  have hno := number_code g _ _ x.w 1 (wdN x 1) W h.cur (by decide) (wdN_at (by omega)) rfl (by have := h.size (wdN x 1) (List.mem_of_getElem? (wdN_at (by omega))); omega) (fun W' hg => (hE.grown h.rd.bel h.rd.old hg).num)
  obtain ⟨res, hres⟩ : ∃ q, q = numW (wdN x 1) := ⟨_, rfl⟩
  rw [← hres] at hno
  have H := Lib.hid (And.intro h hres)
  clear h hres
  show Calls Tryz.prog 102 #[.pointer (some ⟨g, 0, none⟩), .string ⟨#[108, 105, 109, 105, 116]⟩, .int .i64 at_] W _
  obtain ⟨nw, hnw⟩ : ∃ k, k = x.w.length := ⟨_, rfl⟩
  obtain ⟨post, hpost⟩ : ∃ p, p = ReadP w0 rows g n (.slice wA x.w.length wc) (readP 1 s x) := ⟨_, rfl⟩
  rw [← hpost]
  have HP := Lib.hid hpost
  clear hpost
  go_enter Tryz.func102, Tryz.ntmps102
  go_wp2_with (fail)
  refine hno.mono ?_
  rintro e W2 ⟨hm, hg⟩
  clear hno
  obtain ⟨v, er, a⟩ := res
  cases v with
  | some v =>
    obtain ⟨rfl, hc⟩ := hm
    have c6 : W2.cell? ⟨g, 7, none⟩ = some (.int .i64 s.c.lim) := hc.blk.cell' (i := 7) rfl
    have f6 := hc.blk.frozen 7
    have hgl := hc.blk.lt
    have F := Lib.hid (And.intro hc hg)
    clear hc hg
    go_wp2_with (fail)
    rw [HP.out]
    have hr : readP 1 s x = (some { s with c := { s.c with lim := v } }, 0, 0) := by
      show (match numW (wdN x 1) with | (some n, _) => _ | (none, e) => _) = _
      rw [← H.out.2]
    rw [hr]
    exact ⟨rfl, 2, d, r, cs, pl, L, H.out.1.rd.step (only_setCell F.out.2 (Or.inl rfl) _) (F.out.1.blk.set_ 7 _) rfl rfl rfl rfl⟩
  | none =>
    obtain ⟨rfl, hb⟩ := hm
    have c6 : W2.cell? ⟨g, 7, none⟩ = some (.int .i64 s.c.lim) := hb.cell' (i := 7) rfl
    have f6 := hb.frozen 7
    have hgl := hb.lt
    have F := Lib.hid (And.intro hb hg)
    clear hb hg
    go_wp2_with (fail)
    rw [HP.out]
    have hr : readP 1 s x = (none, er, a) := by
      show (match numW (wdN x 1) with | (some n, _) => _ | (none, e) => _) = _
      rw [← H.out.2]
    rw [hr]
    exact ⟨rfl, _, F.out.1.set_ 7 _, rfl, rfl, H.out.1.rd.bel' (only_setCell F.out.2 (Or.inl rfl) _)⟩
end Go.Proofs.YthpcbaamkeiffaaGreatDoor
namespace Go.Proofs.YthpcbaamkeiffaaGreatDoor
open Go.RowKit Go.Shelf
set_option linter.unusedVariables false
set_option linter.unusedSimpArgs false

/-! One element more. -/
theorem own_others {X W1 : World} {B m n : Nat} {T : TypeId} {v : Value} {xs : List Value} (h : X.ownsRow B T m v n xs) (hg : X.grownBy W1 v.ownBlock) : ∀ k t cs, Blk X k t cs → t ≠ T → Blk W1 k t cs :=
  fun k t cs hk ht => hk.grown hg (own_blk_ne h hk (Ne.symm ht))
theorem RdMem.pushDir {W X W1 : World} {B L : Nat} {s : Rd} {d r cs pl : Value} (h : RdMem W B L s d r cs pl) (hX : Below W.heap.size W X) {us : List Value} (hU : OwnU 48 3 drC W B d s.c.dirs us) (hE : Each (fun x u => RusMem W B L u x.rus) s.c.dirs us) (hA : Aparts us)
    {p : ByteArray} {m : Int} {v' : Value} (hown : W1.ownsRow B 48 3 v' (s.c.dirs.length + 1) (allL drC s.c.dirs us ++ [.string p, .int .i64 m, .slice none 0 0])) (hg : X.grownBy W1 d.ownBlock) {s' : Rd}
    (h1 : s'.c.dirs = s.c.dirs ++ [⟨p, m, []⟩]) (h2 : s'.c.ros = s.c.ros) (h3 : s'.cds = s.cds) (h4 : s'.pl = s.pl) : RdMem W1 B L s' v' r cs pl := by
  have hk := fun k t cs (hb : Blk W k t cs) (ht : t ≠ 48) => own_others (own_below hU.2 hX (Nat.le_refl _)) hg k t cs (hb.call hX) ht
  obtain ⟨q1, q2, ⟨uc, q3⟩, q4, q5⟩ := h
  refine ⟨?_, by rw [h2]; exact q2.keep (fun k cs _ hb => hk k _ cs hb (by decide)) (fun k cs hb => hk k _ cs hb (by decide)), by rw [h3]; exact ⟨uc, q3.keep fun k cs _ hb => hk k _ cs hb (by decide)⟩, by rw [h4]; exact own_blks q4 (fun k cs hb => hk k _ cs hb (by decide)), q5⟩
  rw [h1]
  refine ⟨us ++ [.slice none 0 0], ⟨by simp [hU.1], ?_⟩, ?_, ?_⟩
  · rw [allL_snoc _ _ hU.1, List.length_append, List.length_singleton]
    exact hown
  · exact Each.snoc (hE.imp fun x u _ hx => hx.keep (fun k cs _ hb => hk k _ cs hb (by decide)) (fun k cs _ hb => hk k _ cs hb (by decide))) hU.1 ⟨[], OwnU.nil _ _ _, Each.nil _ _⟩
  · intro i j a b ha hb hij k hka hkb
    by_cases hi : i < us.length
    · by_cases hj : j < us.length
      · rw [List.getElem?_append_left hi] at ha
        rw [List.getElem?_append_left hj] at hb
        exact hA i j a b ha hb hij k hka hkb
      · have : j = us.length := by have := (List.getElem?_eq_some_iff.1 hb).1; rw [List.length_append, List.length_singleton] at this; omega
        subst this
        rw [List.getElem?_append_right (Nat.le_refl _), Nat.sub_self] at hb
        cases hb
        cases hkb
    · have : i = us.length := by have := (List.getElem?_eq_some_iff.1 ha).1; rw [List.length_append, List.length_singleton] at this; omega
      subst this
      rw [List.getElem?_append_right (Nat.le_refl _), Nat.sub_self] at ha
      cases ha
      cases hka
theorem infoDir : (Tryz.prog.info? 48).map (fun i => (i.zero, i.size, i.bytes)) = some (some (.agg #[.string ⟨#[]⟩, .int .i64 0, .slice none 0 0]), 3, 48) := by kernel_rfl
theorem gr_below {w0 W W' : World} {g : Nat} (hb : Below w0.heap.size w0 W) (hg : w0.heap.size ≤ g) (hr : W.grownBy W' (some g)) : Below w0.heap.size w0 W' := hb.grown hr hb.size (fun k hk => by cases hk; exact hg)

@[go_sem] theorem field_word (a : Int) (t : ByteArray) (q : Bool) (w : World) : (Instr.field 116 (.agg #[.int .i64 a, .string t, .bool q]) 1).run Tryz.prog w = .ok (.string t) w := by kernel_rfl
theorem wh_some {ts : List ByteArray} {d : Wd} {m er a : Int} (h : (some m, er, a) = whW ts d) : ¬ Lib.idxOfS ts d.t < 0 ∧ m = Lib.idxOfS ts d.t := by
  unfold whW whI at h
  by_cases hi : Lib.idxOfS ts d.t < 0
  · rw [if_pos hi, if_neg (by decide)] at h; cases h
  · rw [if_neg hi, if_pos rfl] at h; cases h; exact ⟨hi, rfl⟩
theorem wh_none {ts : List ByteArray} {d : Wd} {er a : Int} (h : (none, er, a) = whW ts d) : Lib.idxOfS ts d.t < 0 ∧ er = 11 ∧ a = d.a := by
  unfold whW whI at h
  by_cases hi : Lib.idxOfS ts d.t < 0
  · rw [if_pos hi, if_neg (by decide)] at h; cases h; exact ⟨hi, rfl, rfl⟩
  · rw [if_neg hi, if_pos rfl] at h; cases h
attribute [-go_sem] Builtin.append_
set_option maxRecDepth 100000 in
set_option maxHeartbeats 8000000 in
theorem read_dir (w0 : World) (hE : Env w0) (rows : Value) (g n : Nat) (wA : Option Addr) (wc : Nat) (x : Rw) (s : Rd) (d r cs pl : Value) (L : Nat) (W : World) (h : RowAt w0 rows g W n wA wc x s d r cs pl L) (at_ : Int) (hl : 3 ≤ x.w.length) (hdl : s.c.dirs.length ≤ 100000) :
    Calls Tryz.prog 102 #[.pointer (some ⟨g, 0, none⟩), .string sDir, .int .i64 at_] W (ReadP w0 rows g n (.slice wA x.w.length wc) (readP 2 s x)) := by
  obtain ⟨i0, hi0, hz0, hz1, hz2⟩ := info_parts infoDir
  have hnx := next_code g _ _ x.w 1 (wdN x 1) W h.cur (by decide) (wdN_at (by omega))
  have H := Lib.hid h
  clear h
  show Calls Tryz.prog 102 #[.pointer (some ⟨g, 0, none⟩), .string ⟨#[100, 105, 114]⟩, .int .i64 at_] W _
  obtain ⟨post, hpost⟩ : ∃ p, p = ReadP w0 rows g n (.slice wA x.w.length wc) (readP 2 s x) := ⟨_, rfl⟩
  rw [← hpost]
  have HP := Lib.hid hpost
  clear hpost
  go_enter Tryz.func102, Tryz.ntmps102
  go_wp2_with (fail)
  refine hnx.mono ?_
  rintro e W2 ⟨rfl, hc, hg⟩
  clear hnx
  obtain ⟨pth, hpth⟩ : ∃ p, p = (wdN x 1).t := ⟨_, rfl⟩
  rw [← hpth]
  obtain ⟨W3, hW3⟩ : ∃ W3, W3 = W2.alloc (.cells #[.string pth, .int .i64 0, .slice none 0 0] 48) := ⟨_, rfl⟩
  have hbo : Below W2.heap.size W2 W3 := by rw [hW3]; exact gr_alloc (Below.refl _ _) _
  have hbx : Blk W3 W2.heap.size 48 #[.string pth, .int .i64 0, .slice none 0 0] := by rw [hW3]; exact Blk.new _ _ _
  have F := Lib.hid (And.intro hc (And.intro hg (And.intro hbo hpth)))
  have FX := Lib.hid hbx
  clear hc hg hbo hbx hpth
  go_wp2_with (fail)
  rw [← hW3]
  clear hW3
  obtain ⟨bx, hbxe⟩ : ∃ b, b = W2.heap.size := ⟨_, rfl⟩
  rw [← hbxe] at FX ⊢
  have hb3 : Below w0.heap.size w0 W3 := gr_call (H.out.rd.bel' F.out.2.1) F.out.2.2.1
  have hgl : g < W3.heap.size := (F.out.1.below F.out.2.2.1).blk.lt
  have hbl : bx < W3.heap.size := FX.out.lt
  have hgb : g < bx := by rw [hbxe]; exact F.out.1.blk.lt
  have hWb : W.heap.size ≤ bx := by rw [hbxe]; exact F.out.2.1.size
  clear hbxe
  obtain ⟨res, hres⟩ : ∃ q, q = whW modesL (wdN x 2) := ⟨_, rfl⟩
  have hwh : ∀ W4 bn, Below W3.heap.size W3 W4 → Blk W4 bn 9 #[.string ⟨#[97, 108, 111, 110, 101]⟩, .string ⟨#[98, 101, 102, 111, 114, 101]⟩, .string ⟨#[97, 102, 116, 101, 114]⟩] → Calls Tryz.prog 125 #[.pointer (some ⟨g, 0, none⟩), .slice (some ⟨bn, 0, none⟩) 3 3] W4 (fun e W5 => TakeP W4 g 92 (rdV rows (.slice wA x.w.length wc) d r cs pl n 2 0 0 s.c.cap s.c.lim) x.w 2 res e W5 ∧ Blk W5 bx 48 #[.string pth, .int .i64 0, .slice none 0 0] ∧ W3.grownBy W5 (some g)) := by
    intro W4 bn hW hb
    rw [hres]
    have hc4 := (F.out.1.below F.out.2.2.1).below hW
    refine (which_code g _ _ x.w 2 (wdN x 2) W4 hc4 (by decide) (wdN_at (by omega)) rfl _ modesL (by decide) (texts_blk (ts := modesL) hb rfl) (fun a n c e => ?_)).mono (fun e W5 hm => ⟨hm, (FX.out.call hW).grown hm.2 (by simp; omega), only_trans (only_of_below hW _) hm.2⟩)
    cases e
    have : bn ≠ g := hb.ne_ hc4.blk (by decide)
    simpa using this
  have R := Lib.hid (And.intro hb3 hres)
  clear hb3 hres
  obtain ⟨v, er, a⟩ := res
  cases v with
  | some m =>
    go_region_with (first
      | (go_at_call 36; refine (modes_code _).mono ?_; rintro e W4 ⟨rfl, rfl⟩)
      | (go_at_call 125; refine (hwh _ _ (by first | exact gr_drew (gr_alloc (Below.refl _ _) _) | exact gr_alloc (Below.refl _ _) _ | exact gr_alloc (gr_drew (Below.refl _ _)) _) (by first | exact (Blk.new _ _ _).drew | exact Blk.new _ _ _)).mono ?_; rintro e W5 ⟨⟨⟨rfl, hc5⟩, _⟩, hx5, hg5⟩
         have y1 : W5.cell? ⟨bx, 1, none⟩ = some (.int .i64 0) := hx5.cell' (i := 1) rfl
         have y1f := hx5.frozen 1
         have y1l := hx5.lt))
    have hgr5 : W.grownBy W5 (some g) := only_trans (only_trans F.out.2.1 (only_of_below F.out.2.2.1 _)) hg5
    have hgrV : W.grownBy (W5.setCell ⟨bx, 1, none⟩ (.int .i64 m)) (some g) := only_setCell hgr5 (Or.inr hWb) _
    have hmem := H.out.rd.mem.grown H.out.rd.blk reader_not hgrV
    obtain ⟨us, hU, hEa, hA⟩ := hmem.dirs
    obtain ⟨dA, dc, rfl⟩ := hU.slice
    have hcV := hc5.far (p := ⟨bx, 1, none⟩) hgb (.int .i64 m)
    have hxV := hx5.set_ 1 (.int .i64 m)
    have T := Lib.hid (And.intro hmem (And.intro hU (And.intro hEa (And.intro hA (And.intro hgrV (And.intro hcV hxV))))))
    obtain ⟨V, hV⟩ : ∃ V, V = W5.setCell ⟨bx, 1, none⟩ (.int .i64 m) := ⟨_, rfl⟩
    rw [← hV] at T ⊢
    clear hmem hU hEa hA hgr5 hgrV hcV hxV hc5 hx5 hg5 y1 y1f y1l hV
    have kb := T.out.2.2.2.2.1.size
    have hX : Below V.heap.size V (V.alloc (.cells #[.string pth, .int .i64 m, .slice none 0 0] 48)).drew := gr_drew (gr_alloc (Below.refl _ _) _)
    have hUV := T.out.2.1
    have hdg : ∀ k, Value.ownBlock (.slice dA s.c.dirs.length dc) = some k → k ≠ g := fun k hk e => by
      subst e
      exact own_blk_ne hUV.2 T.out.2.2.2.2.2.1.blk (by decide) hk.symm
    have hUX := hUV.below hX
    have hb0V : Below w0.heap.size w0 V := gr_below H.out.rd.bel H.out.rd.old T.out.2.2.2.2.1
    obtain ⟨gg, cap, W1, hrun, hU1, hgw, hat, hlt⟩ := hUX.append (P := Tryz.prog) drC_len (by decide) Tryz.underlying24 hi0 hz0 hz1 hz2 rfl (x := ⟨pth, m, []⟩) (u := .slice none 0 0) (ad := ⟨V.heap.size, 0, none⟩) (c := 1) (by
        intro j q hj
        rw [Addr.add_lit, Nat.zero_add]
        have hbn : Blk (V.alloc (.cells #[.string pth, .int .i64 m, .slice none 0 0] 48)).drew V.heap.size 48 #[.string pth, .int .i64 m, .slice none 0 0] := Blk.new _ _ _
        exact hbn.cell' (by simpa [drC] using hj)) (by
        intro q hq
        simp [drC] at hq
        rcases hq with rfl | rfl | rfl <;> rfl) (by omega) (by decide) (by have := hb0V.size; have := hX.size; omega) 24
    obtain ⟨dn, hdn⟩ : ∃ k, k = s.c.dirs.length := ⟨_, rfl⟩
    have v0 : V.cell? ⟨g, 8, none⟩ = some (.slice dA dn dc) := by rw [hdn]; exact T.out.2.2.2.2.2.1.blk.cell' (i := 8) rfl
    have x0 : V.cell? ⟨bx, 0, none⟩ = some (.string pth) := T.out.2.2.2.2.2.2.cell' (i := 0) rfl
    have x1 : V.cell? ⟨bx, 1, none⟩ = some (.int .i64 m) := T.out.2.2.2.2.2.2.cell' (i := 1) rfl
    have x2 : V.cell? ⟨bx, 2, none⟩ = some (.slice none 0 0) := T.out.2.2.2.2.2.2.cell' (i := 2) rfl
    have vl := T.out.2.2.2.2.2.1.blk.lt
    have xl := T.out.2.2.2.2.2.2.lt
    have hgX := (T.out.2.2.2.2.2.1.blk.call hX).grown hgw (by intro e; exact hdg g e.symm rfl)
    have u0 : W1.cell? ⟨g, 8, none⟩ = some (.slice dA dn dc) := by rw [hdn]; exact hgX.cell' (i := 8) rfl
    have u1 := hgX.frozen 8
    have u2 := hgX.lt
    rw [← hdn] at hrun
    have Y := Lib.hid (And.intro hX (And.intro hU1 (And.intro hgw (And.intro hgX (And.intro hUV hdn)))))
    clear hX hdg hUV hUX hb0V hU1 hgw hat hgX hdn
    go_wp2_with (fail)
    go_region
    all_goals go_wp2_with (fail)
    all_goals
      obtain ⟨hX, hU1, hgw, hgX, hUV, hdn⟩ := Y.out
      obtain ⟨hmem, _, hEa, hA, hgrV, hcV, hxV⟩ := T.out
      obtain ⟨hi0, hmi⟩ := wh_some R.out.2
      rw [HP.out]
      have hr : readP 2 s x = (some { s with c := { s.c with dirs := s.c.dirs ++ [⟨pth, m, []⟩] } }, 0, 0) := by
        show (if _ then _ else _) = _
        rw [if_neg hi0, ← hmi, ← F.out.2.2.2]
      rw [hr]
      have hown := hU1.2
      rw [allL_snoc _ _ hUV.1, List.length_append, List.length_singleton] at hown
      rw [← hdn] at hgw
      have hpu := RdMem.pushDir (s' := { s with c := { s.c with dirs := s.c.dirs ++ [⟨pth, m, []⟩] } }) hmem hX hUV hEa hA hown (by rw [hdn] at hgw; exact hgw) rfl rfl rfl rfl
      have hgs : W1.grownBy (W1.setCell ⟨g, 8, none⟩ (.slice (some ⟨gg, 0, none⟩) (dn + 1) cap)) (some g) := only_setCell (only_refl _ _) (Or.inl rfl) _
      have hlo : ∀ k, some k = Value.ownBlock (.slice dA dn dc) → w0.heap.size ≤ k := fun k hk => (hUV.block (by rw [← hdn]; exact hk.symm)).1
      have hb1 : Below w0.heap.size w0 W1 := ((gr_below H.out.rd.bel H.out.rd.old hgrV).trans (hX.mono (gr_below H.out.rd.bel H.out.rd.old hgrV).size)).grown hgw (Nat.le_trans (gr_below H.out.rd.bel H.out.rd.old hgrV).size hX.size) (fun k hk => hlo k hk.symm)
      have hpu2 := hpu.grown hgX reader_not hgs
      refine ⟨rfl, 3, _, _, _, _, L, ⟨hgX.set_ 8 _, ?_, hb1.setCell H.out.rd.old _, H.out.rd.old, ?_⟩⟩
      · rw [← hdn] at hpu2
        exact hpu2
      · have h1 := H.out.rd.lw
        have h2 := hgrV.size
        have h3 := hX.size
        have h4 := hgw.size
        have h5 := hgs.size
        omega
  | none =>
    go_region_with (first
      | (go_at_call 36; refine (modes_code _).mono ?_; rintro e W4 ⟨rfl, rfl⟩)
      | (go_at_call 125; refine (hwh _ _ (by first | exact gr_drew (gr_alloc (Below.refl _ _) _) | exact gr_alloc (Below.refl _ _) _ | exact gr_alloc (gr_drew (Below.refl _ _)) _) (by first | exact (Blk.new _ _ _).drew | exact Blk.new _ _ _)).mono ?_; rintro e W5 ⟨⟨⟨rfl, hc5⟩, _⟩, hx5, hg5⟩
         have y1 : W5.cell? ⟨bx, 1, none⟩ = some (.int .i64 0) := hx5.cell' (i := 1) rfl
         have y1f := hx5.frozen 1
         have y1l := hx5.lt))
    have hgr5 : W.grownBy W5 (some g) := only_trans (only_trans F.out.2.1 (only_of_below F.out.2.2.1 _)) hg5
    have hgrV : W.grownBy (W5.setCell ⟨bx, 1, none⟩ (.int .i64 0)) (some g) := only_setCell hgr5 (Or.inr hWb) _
    have hbV := hc5.far (p := ⟨bx, 1, none⟩) (by show g ≠ bx; omega) (.int .i64 0)
    have Y := Lib.hid (And.intro hgrV hbV)
    clear hgr5 hgrV hbV hc5 hx5 hg5 y1 y1f y1l
    go_wp2_with (fail)
    obtain ⟨hi0, rfl, rfl⟩ := wh_none R.out.2
    rw [HP.out]
    have hr : readP 2 s x = (none, 11, (wdN x 2).a) := by
      show (if _ then _ else _) = _
      rw [if_pos hi0]
    rw [hr]
    exact ⟨rfl, _, Y.out.2, rfl, rfl, H.out.rd.bel' Y.out.1⟩
end Go.Proofs.YthpcbaamkeiffaaGreatDoor
