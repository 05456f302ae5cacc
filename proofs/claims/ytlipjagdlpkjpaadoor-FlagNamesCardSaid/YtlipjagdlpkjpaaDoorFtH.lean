/-
  flag.Parse where there are brackets, walked; conditions: the two tables lie as they are laid, a variable of the library is an int.
-/
import Derived.Test.YtlipjagdlpkjpaaDoorFtG
import Derived.Laws.DeepStrings4
namespace Go.Proofs.YtlipjagdlpkjpaaDoor
open Go.RowKit
set_option linter.unusedVariables false
set_option linter.unusedSimpArgs false

/-- The parts between the brackets. -/
def partsF (s : ByteArray) : List ByteArray := (segs (byS s) 44 1 1 (s.size - 2)).map (fun p => s.extract p.1 p.2)

theorem mid_split (s : ByteArray) (h : 1 < s.size) : Lib.splitB ⟨#[44]⟩ 0 (Lib.countB (midS s) ⟨#[44]⟩) (midS s) = partsF s := by
  have := split_segs s 44 (s.size - 2) 1 (s.size - 1) (by omega) (by omega) (by omega)
  unfold partsF
  rw [show s.size - 2 = s.size - 1 - 1 by omega]
  exact this
theorem parts_len (s : ByteArray) (h : 1 < s.size) : (partsF s).length = Lib.countB (midS s) ⟨#[44]⟩ + 1 := by
  rw [← mid_split s h]
  exact Lib.splitB_all _ (by show 1 ≤ 1; omega) _ _ _ rfl
theorem parts_small (s : ByteArray) (h : 1 < s.size) : ∀ p ∈ partsF s, p.size ≤ s.size := by
  intro p hp
  obtain ⟨q, hq, rfl⟩ := List.mem_map.1 hp
  have := segs_in _ _ _ (Nat.le_refl _) q hq
  rw [ext_len (by omega)]
  omega
theorem parts_le (s : ByteArray) (h : 1 < s.size) : (partsF s).length ≤ s.size := by
  have h1 := Lib.countB_le ⟨#[44]⟩ (by show 1 ≤ 1; omega) _ (midS s) (Nat.le_refl _)
  have h2 : (midS s).size = s.size - 1 - 1 := ext_len (by omega)
  rw [parts_len s h]
  omega
theorem runP_step {L : List ByteArray} {k : Nat} {p : ByteArray} {st : Put} {a : Nat} (h : L[k]? = some p) (h0 : (putP st p).2 = 0) : runP (L.drop k) st a = runP (L.drop (k + 1)) (putP st p).1 (a + p.size + 1) := by
  obtain ⟨hlt, he⟩ := List.getElem?_eq_some_iff.1 h
  rw [List.drop_eq_getElem_cons hlt, he]
  conv => lhs; unfold runP
  rw [if_pos h0]
theorem runP_stop {L : List ByteArray} {k : Nat} {p : ByteArray} {st : Put} {a : Nat} (h : L[k]? = some p) (h0 : (putP st p).2 ≠ 0) : runP (L.drop k) st a = (st, (putP st p).2, a) := by
  obtain ⟨hlt, he⟩ := List.getElem?_eq_some_iff.1 h
  rw [List.drop_eq_getElem_cons hlt, he]
  conv => lhs; unfold runP
  rw [if_neg h0]
theorem runP_end {L : List ByteArray} {k : Nat} {st : Put} {a : Nat} (h : L.length ≤ k) : runP (L.drop k) st a = (st, 0, a) := by
  rw [List.drop_eq_nil_of_le h]; rfl
def PRel (L : List ByteArray) (N : Nat) (w : World) (n : Nat) (t i : Value) (wr : World) : Prop :=
  ∃ (k : Nat) (st : Put) (a : Nat), n + k = L.length ∧ i = .int .i64 (k : Int) ∧ t = .int .i64 (a : Int) ∧ a ≤ 1 + k * 1000001 ∧ PutOk st ∧ runP L zeroPut 1 = runP (L.drop k) st a ∧
    Blk wr (N + 1 + 1) 51 (putC st) ∧ Blk wr N 24 #[Value.bool zeroF.last, .bool zeroF.next, .bool zeroF.chain, .bool zeroF.fin, .bool zeroF.forb, .bool zeroF.gone, .bool zeroF.app, .bool zeroF.disc, .int .i64 zeroF.skip, .int .i64 zeroF.red] ∧ Blk wr (N + 1) 27 #[.int .i64 0, .int .i64 0] ∧ Blk wr (N + 1 + 1 + 1) 9 (L.map Value.string).toArray ∧ Below N w wr
theorem start_rel (L : List ByteArray) (w : World) : PRel L w.heap.size w L.length (.int .i64 1) (.int .i64 0) ((((w.alloc (.cells #[Value.bool zeroF.last, .bool zeroF.next, .bool zeroF.chain, .bool zeroF.fin, .bool zeroF.forb, .bool zeroF.gone, .bool zeroF.app, .bool zeroF.disc, .int .i64 zeroF.skip, .int .i64 zeroF.red] 24)).alloc (.cells #[.int .i64 0, .int .i64 0] 27)).alloc (.cells (putC zeroPut) 51)).alloc (.cells (L.map Value.string).toArray 9)) := by
  obtain ⟨h1, h2, h3⟩ := two_blks w 0 0
  have e2 : ((w.alloc (.cells #[Value.bool zeroF.last, .bool zeroF.next, .bool zeroF.chain, .bool zeroF.fin, .bool zeroF.forb, .bool zeroF.gone, .bool zeroF.app, .bool zeroF.disc, .int .i64 zeroF.skip, .int .i64 zeroF.red] 24)).alloc (.cells #[.int .i64 0, .int .i64 0] 27)).heap.size = w.heap.size + 1 + 1 := by simp
  have b2 := Blk.new ((w.alloc (.cells #[Value.bool zeroF.last, .bool zeroF.next, .bool zeroF.chain, .bool zeroF.fin, .bool zeroF.forb, .bool zeroF.gone, .bool zeroF.app, .bool zeroF.disc, .int .i64 zeroF.skip, .int .i64 zeroF.red] 24)).alloc (.cells #[.int .i64 0, .int .i64 0] 27)) 51 (putC zeroPut)
  have e3 : (((w.alloc (.cells #[Value.bool zeroF.last, .bool zeroF.next, .bool zeroF.chain, .bool zeroF.fin, .bool zeroF.forb, .bool zeroF.gone, .bool zeroF.app, .bool zeroF.disc, .int .i64 zeroF.skip, .int .i64 zeroF.red] 24)).alloc (.cells #[.int .i64 0, .int .i64 0] 27)).alloc (.cells (putC zeroPut) 51)).heap.size = w.heap.size + 1 + 1 + 1 := by simp
  have b3 := Blk.new (((w.alloc (.cells #[Value.bool zeroF.last, .bool zeroF.next, .bool zeroF.chain, .bool zeroF.fin, .bool zeroF.forb, .bool zeroF.gone, .bool zeroF.app, .bool zeroF.disc, .int .i64 zeroF.skip, .int .i64 zeroF.red] 24)).alloc (.cells #[.int .i64 0, .int .i64 0] 27)).alloc (.cells (putC zeroPut) 51)) 9 (L.map Value.string).toArray
  rw [e2] at b2
  rw [e3] at b3
  exact ⟨0, zeroPut, 1, Nat.add_zero _, rfl, rfl, by omega, ⟨by decide, by decide⟩, rfl, b2.alloc _, (h1.alloc _).alloc _, (h2.alloc _).alloc _, b3, gr_alloc (gr_alloc h3 _) _⟩

/-- The fault written. -/
theorem set_fault {W w : World} {N : Nat} {cs : Array Value} (er a : Int) (hB : Blk W (N + 1 + 1) 51 cs) (hA : Blk W N 24 #[Value.bool zeroF.last, .bool zeroF.next, .bool zeroF.chain, .bool zeroF.fin, .bool zeroF.forb, .bool zeroF.gone, .bool zeroF.app, .bool zeroF.disc, .int .i64 zeroF.skip, .int .i64 zeroF.red]) (hF : Blk W (N + 1) 27 #[.int .i64 0, .int .i64 0]) (hb : Below N w W) :
    Blk ((W.setCell ⟨N + 1, 0, none⟩ (.int .i64 er)).setCell ⟨N + 1, 1, none⟩ (.int .i64 a)) (N + 1 + 1) 51 cs ∧
    Blk ((W.setCell ⟨N + 1, 0, none⟩ (.int .i64 er)).setCell ⟨N + 1, 1, none⟩ (.int .i64 a)) N 24 #[Value.bool zeroF.last, .bool zeroF.next, .bool zeroF.chain, .bool zeroF.fin, .bool zeroF.forb, .bool zeroF.gone, .bool zeroF.app, .bool zeroF.disc, .int .i64 zeroF.skip, .int .i64 zeroF.red] ∧
    Blk ((W.setCell ⟨N + 1, 0, none⟩ (.int .i64 er)).setCell ⟨N + 1, 1, none⟩ (.int .i64 a)) (N + 1) 27 #[.int .i64 er, .int .i64 a] ∧
    Below N w ((W.setCell ⟨N + 1, 0, none⟩ (.int .i64 er)).setCell ⟨N + 1, 1, none⟩ (.int .i64 a)) :=
  ⟨(hB.far (p := ⟨N + 1, 0, none⟩) (by simp) _).far (p := ⟨N + 1, 1, none⟩) (by simp) _, (hA.far (p := ⟨N + 1, 0, none⟩) (by simp) _).far (p := ⟨N + 1, 1, none⟩) (by simp) _, (hF.set_ 0 _).set_ 1 _, (hb.setCell (by simp) _).setCell (by simp) _⟩

/-- The results written. -/
theorem set_results {W w : World} {N : Nat} {cs : Array Value} (hs : cs.size = 10) (er a : Int) (f : Flg) (hA : Blk W N 24 cs) (hF : Blk W (N + 1) 27 #[.int .i64 er, .int .i64 a]) (hb : Below N w W) :
    Blk (((lay10 W N (.bool f.last) (.bool f.next) (.bool f.chain) (.bool f.fin) (.bool f.forb) (.bool f.gone) (.bool f.app) (.bool f.disc) (.int .i64 f.skip) (.int .i64 f.red)).setCell ⟨N + 1, 0, none⟩ (.int .i64 er)).setCell ⟨N + 1, 1, none⟩ (.int .i64 a)) N 24 #[Value.bool f.last, .bool f.next, .bool f.chain, .bool f.fin, .bool f.forb, .bool f.gone, .bool f.app, .bool f.disc, .int .i64 f.skip, .int .i64 f.red] ∧ Blk (((lay10 W N (.bool f.last) (.bool f.next) (.bool f.chain) (.bool f.fin) (.bool f.forb) (.bool f.gone) (.bool f.app) (.bool f.disc) (.int .i64 f.skip) (.int .i64 f.red)).setCell ⟨N + 1, 0, none⟩ (.int .i64 er)).setCell ⟨N + 1, 1, none⟩ (.int .i64 a)) (N + 1) 27 #[.int .i64 er, .int .i64 a] ∧ Below N w (((lay10 W N (.bool f.last) (.bool f.next) (.bool f.chain) (.bool f.fin) (.bool f.forb) (.bool f.gone) (.bool f.app) (.bool f.disc) (.int .i64 f.skip) (.int .i64 f.red)).setCell ⟨N + 1, 0, none⟩ (.int .i64 er)).setCell ⟨N + 1, 1, none⟩ (.int .i64 a)) := by
  refine ⟨?_, ?_, ?_⟩
  · exact ((lay10_same hA hs _ _ _ _ _ _ _ _ _ _).far (p := ⟨N + 1, 0, none⟩) (by simp) _).far (p := ⟨N + 1, 1, none⟩) (by simp) _
  · exact ((lay10_far hF (by simp) _ _ _ _ _ _ _ _ _ _).set_ 0 _).set_ 1 _
  · refine (Below.setCell (Below.setCell ?_ (by simp) _) (by simp) _)
    exact hb.trans ((lay10_x (BelowX.refl _ _ _) _ _ _ _ _ _ _ _ _ _).below (Nat.le_refl _) (Nat.le_refl _))

theorem set_fault1 {W w : World} {N : Nat} {cs : Array Value} (er : Int) (hB : Blk W (N + 1 + 1) 51 cs) (hA : Blk W N 24 #[Value.bool zeroF.last, .bool zeroF.next, .bool zeroF.chain, .bool zeroF.fin, .bool zeroF.forb, .bool zeroF.gone, .bool zeroF.app, .bool zeroF.disc, .int .i64 zeroF.skip, .int .i64 zeroF.red]) (hF : Blk W (N + 1) 27 #[.int .i64 0, .int .i64 0]) (hb : Below N w W) :
    Blk (W.setCell ⟨N + 1, 0, none⟩ (.int .i64 er)) (N + 1 + 1) 51 cs ∧
    Blk (W.setCell ⟨N + 1, 0, none⟩ (.int .i64 er)) N 24 #[Value.bool zeroF.last, .bool zeroF.next, .bool zeroF.chain, .bool zeroF.fin, .bool zeroF.forb, .bool zeroF.gone, .bool zeroF.app, .bool zeroF.disc, .int .i64 zeroF.skip, .int .i64 zeroF.red] ∧
    Blk (W.setCell ⟨N + 1, 0, none⟩ (.int .i64 er)) (N + 1) 27 #[.int .i64 er, .int .i64 0] ∧
    Below N w (W.setCell ⟨N + 1, 0, none⟩ (.int .i64 er)) :=
  ⟨hB.far (p := ⟨N + 1, 0, none⟩) (by simp) _, hA.far (p := ⟨N + 1, 0, none⟩) (by simp) _, hF.set_ 0 _, hb.setCell (by simp) _⟩
theorem done_end (st : Put) (a : Nat) : doneR (st, 0, a) = ((if wholeP st = 0 then st.f else zeroF), wholeP st, 0) := by
  unfold doneR
  rw [if_pos rfl]
  by_cases h : wholeP st = 0
  · rw [if_pos h, if_pos h, h]
  · rw [if_neg h, if_neg h]

set_option maxRecDepth 100000 in
set_option maxHeartbeats 1000000 in
theorem fparse_main (s : ByteArray) (h0 : 1 < s.size) (hs : s.size ≤ 1000000) (h : byS s 0 = 91) (h9 : byS s (s.size - 1) = 93) (w : World) (hT : Tabs w) (hm : MaxOk w) :
    Calls Tryd.prog 10 #[.string s] w (ParsePost w (doneR (runP (partsF s) zeroPut 1))) := by
  have hmf : ∀ (fn : Fn) (first cap : Array Value) (w : World), (Instr.makeFunc fn first cap).run Tryd.prog w = .ok (.func fn first cap) w := fun _ _ _ _ => rfl
  have hne := nonempty_b s (by omega)
  obtain ⟨d, hd⟩ : ∃ d, d = byS s 0 := ⟨_, rfl⟩
  have e0 := fun h' => get_byS s 0 h'
  simp only [← hd] at e0 h
  have q : ((d : Int) != 91) = false := by simp; omega
  have qs : ((s.size : Int) == 1) = false := by simp; omega
  obtain ⟨z, hz⟩ : ∃ z, z = byS s (s.size - 1) := ⟨_, rfl⟩
  have e9 := fun h' => get_byS s (s.size - 1) h'
  simp only [← hz] at e9 h9
  have q9 : ((z : Int) != 93) = false := by simp; omega
  clear hd h hz h9
  have hsl : ∀ W : World, (Instr.slice 9 (.string s) (some (.int .i64 1)) (some (.int .i64 ((s.size : Int) - 1))) none).run Tryd.prog W = .ok (.string (midS s)) W := fun W => by
    rw [run_slice_string_if _ _ _ _ _ _ _ Tryd.underlying9, if_pos (by omega), if_pos (by omega), show ((s.size : Int) - 1).toNat = s.size - 1 by omega]
    rfl
  have hsm : (midS s).size ≤ 1000000 := by unfold midS; rw [ext_len (by omega)]; omega
  have HT := Lib.hid (And.intro hT (And.intro (mid_split s h0) (And.intro (parts_len s h0) (And.intro (parts_small s h0) (parts_le s h0)))))
  have hmm := hm.below (gr_alloc (gr_alloc (gr_alloc (Below.refl w.heap.size w) (.cells #[Value.bool zeroF.last, .bool zeroF.next, .bool zeroF.chain, .bool zeroF.fin, .bool zeroF.forb, .bool zeroF.gone, .bool zeroF.app, .bool zeroF.disc, .int .i64 zeroF.skip, .int .i64 zeroF.red] 24)) (.cells #[.int .i64 0, .int .i64 0] 27)) (.cells (putC zeroPut) 51)) (Nat.le_refl _)
  obtain ⟨m, hmm⟩ := hmm
  have HM := Lib.hid (And.intro hm hmm)
  clear hT hm hmm
  go_enter_defers Tryd.func10, Tryd.ntmps10
  go_wp2_with (fail)
  go_step3
  go_wp2_with (fail)
  go_step3
  go_wp2_with (fail)
  refine (Tryd.strings_Split (midS s) ⟨#[44]⟩ m _ (by omega) (by exact HM.out.2) (by show 1 ≤ 1; omega)).mono ?_
  rintro e W1 ⟨rfl, hW1⟩
  rw [HT.out.2.1] at hW1
  have hst := start_rel (partsF s) w
  rw [show ((((w.alloc (.cells #[Value.bool zeroF.last, .bool zeroF.next, .bool zeroF.chain, .bool zeroF.fin, .bool zeroF.forb, .bool zeroF.gone, .bool zeroF.app, .bool zeroF.disc, .int .i64 zeroF.skip, .int .i64 zeroF.red] 24)).alloc (.cells #[.int .i64 0, .int .i64 0] 27)).alloc (.cells (putC zeroPut) 51)).alloc (.cells ((partsF s).map Value.string).toArray 9)) = W1 from hW1.symm] at hst
  clear hW1 hne e0 q qs e9 q9 hsl hsm
  have hn : Lib.countB (midS s) ⟨#[44]⟩ + 1 = (partsF s).length := HT.out.2.2.1.symm
  have hlen : (partsF s).length ≤ 1000000 := by have := HT.out.2.2.2.2; omega
  obtain ⟨L, hL⟩ : ∃ L, L = partsF s := ⟨_, rfl⟩
  rw [← hL] at hst hn hlen ⊢
  have HL := Lib.hid hL
  have HST := Lib.hid hst
  clear hL hst
  rw [hn]
  clear hn
  go_wp2_with (fail)
  go_loopg [5, 46] L.length (fun n t i wr => PRel L w.heap.size w n t i wr)
  case atStart => exact HST.out
  case round =>
    clear HST
    obtain ⟨k, st, a, hk, rfl, rfl, ha, hok, hrun, hbB, hbA, hbF, hbL, hbel⟩ := hrel
    have hbz := hbel.size
    have hl3 := hbL.lt
    have hf0 := hbF.frozen 0
    have hf1 := hbF.frozen 1
    have hc0 := hbF.cell' (i := 0) (v := .int .i64 0) rfl
    have hc1 := hbF.cell' (i := 1) (v := .int .i64 0) rfl
    by_cases hlt : k < L.length
    · obtain ⟨p, hp⟩ : ∃ p, L[k]? = some p := ⟨L[k], List.getElem?_eq_getElem hlt⟩
      have hps : p.size ≤ 1000000 := by
        have h1 := HT.out.2.2.2.1 p (by rw [← HL.out]; exact List.mem_of_getElem? hp)
        omega
      have hc := hbL.cell' (i := k) (v := .string p) (by rw [List.getElem?_toArray, List.getElem?_map, hp]; rfl)
      have H := Lib.hid (And.intro hp (And.intro hrun (And.intro hbB (And.intro hbA (And.intro hbF (And.intro hbL (And.intro hbel hok)))))))
      have HM2 := Lib.hid (HM.out.1.below hbel (Nat.le_refl _))
      clear hp hrun hbB hbA hbF hbL hbel hok hf0 hf1 hc0 hc1
      go_wp2_with (fail)
      refine (fpart (w.heap.size + 1 + 1) st p hps _ HM2.out H.out.2.2.1).mono ?_
      rintro e W2 ⟨rfl, hb2, hx2⟩
      have hA2 := hx2.blk H.out.2.2.2.1 (by omega) (by omega)
      have hF2 := hx2.blk H.out.2.2.2.2.1 (by omega) (by omega)
      have hL2 := hx2.blk H.out.2.2.2.2.2.1 (by omega) (by omega)
      have hbel2 := H.out.2.2.2.2.2.2.1.trans (hx2.below hbz (by omega))
      have hf0 := hF2.frozen 0
      have hf1 := hF2.frozen 1
      have hc0 := hF2.cell' (i := 0) (v := .int .i64 0) rfl
      have hc1 := hF2.cell' (i := 1) (v := .int .i64 0) rfl
      have hz2 := hL2.lt
      have HE : Hid ((putP st p).2 = (putP st p).2) := Lib.hid rfl
      obtain ⟨er, her⟩ : ∃ er, er = (putP st p).2 := ⟨_, rfl⟩
      have K := Lib.hid (And.intro hb2 (And.intro hA2 (And.intro hF2 (And.intro hL2 (And.intro hbel2 her)))))
      clear hb2 hx2 hA2 hF2 hL2 hbel2 HE
      rw [← her]
      clear her
      by_cases he : er = 0
      · have q : (er != 0) = false := by simp; exact he
        have HE := Lib.hid he
        clear he
        go_wp2_with (fail)
        go_roundg (L.length - (k + 1))
        case measure => omega
        case rel =>
          have hz : (putP st p).2 = 0 := K.out.2.2.2.2.2.symm.trans HE.out
          refine ⟨k + 1, (putP st p).1, a + p.size + 1, by omega, by go_num, by go_num, by omega, put_ok H.out.2.2.2.2.2.2.2 p, ?_, K.out.1, K.out.2.1, K.out.2.2.1, K.out.2.2.2.1, K.out.2.2.2.2.1⟩
          rw [H.out.2.1]
          exact runP_step H.out.1 hz
      · have q : (er != 0) = true := by simp; exact he
        have q2 : (er == 0) = false := by simp; exact he
        have HE := Lib.hid he
        clear he
        go_wp2_with (fail)
        obtain ⟨W3, hW3⟩ : ∃ W3, W3 = (W2.setCell ⟨w.heap.size + 1, 0, none⟩ (.int .i64 er)).setCell ⟨w.heap.size + 1, 1, none⟩ (.int .i64 (a : Int)) := ⟨_, rfl⟩
        have G := Lib.hid (set_fault er (a : Int) K.out.1 K.out.2.1 K.out.2.2.1 K.out.2.2.2.2.1)
        rw [← hW3] at G ⊢
        have hr : Hid (doneR (runP (partsF s) zeroPut 1) = (zeroF, er, a)) := Lib.hid (by rw [← HL.out, H.out.2.1, runP_stop H.out.1 (by rw [← K.out.2.2.2.2.2]; exact HE.out), ← K.out.2.2.2.2.2]; unfold doneR; exact if_neg HE.out)
        clear hW3 hf0 hf1 hc0 hc1 hz2 K H hc
        obtain ⟨sp, hsp⟩ : ∃ sp, sp = (putP st p).1 := ⟨_, rfl⟩
        rw [← hsp] at G
        clear hsp
        have c0 : W3.cell? ⟨w.heap.size + 1 + 1, 0, none⟩ = some (.bool sp.f.last) := G.out.1.cell' (i := 0) rfl
        have c1 : W3.cell? ⟨w.heap.size + 1 + 1, 1, none⟩ = some (.bool sp.f.next) := G.out.1.cell' (i := 1) rfl
        have c2 : W3.cell? ⟨w.heap.size + 1 + 1, 2, none⟩ = some (.bool sp.f.chain) := G.out.1.cell' (i := 2) rfl
        have c3 : W3.cell? ⟨w.heap.size + 1 + 1, 3, none⟩ = some (.bool sp.f.fin) := G.out.1.cell' (i := 3) rfl
        have c4 : W3.cell? ⟨w.heap.size + 1 + 1, 4, none⟩ = some (.bool sp.f.forb) := G.out.1.cell' (i := 4) rfl
        have c5 : W3.cell? ⟨w.heap.size + 1 + 1, 5, none⟩ = some (.bool sp.f.gone) := G.out.1.cell' (i := 5) rfl
        have c6 : W3.cell? ⟨w.heap.size + 1 + 1, 6, none⟩ = some (.bool sp.f.app) := G.out.1.cell' (i := 6) rfl
        have c7 : W3.cell? ⟨w.heap.size + 1 + 1, 7, none⟩ = some (.bool sp.f.disc) := G.out.1.cell' (i := 7) rfl
        have c8 : W3.cell? ⟨w.heap.size + 1 + 1, 8, none⟩ = some (.int .i64 sp.f.skip) := G.out.1.cell' (i := 8) rfl
        have c9 : W3.cell? ⟨w.heap.size + 1 + 1, 9, none⟩ = some (.int .i64 sp.f.red) := G.out.1.cell' (i := 9) rfl
        have d0 := G.out.2.2.1.cell' (i := 0) (v := .int .i64 er) rfl
        have d1 := G.out.2.2.1.cell' (i := 1) (v := .int .i64 (a : Int)) rfl
        have a0 : W3.cell? ⟨w.heap.size, 0, none⟩ = some (.bool false) := G.out.2.1.cell' (i := 0) rfl
        have a1 : W3.cell? ⟨w.heap.size, 1, none⟩ = some (.bool false) := G.out.2.1.cell' (i := 1) rfl
        have a2 : W3.cell? ⟨w.heap.size, 2, none⟩ = some (.bool false) := G.out.2.1.cell' (i := 2) rfl
        have a3 : W3.cell? ⟨w.heap.size, 3, none⟩ = some (.bool false) := G.out.2.1.cell' (i := 3) rfl
        have a4 : W3.cell? ⟨w.heap.size, 4, none⟩ = some (.bool false) := G.out.2.1.cell' (i := 4) rfl
        have a5 : W3.cell? ⟨w.heap.size, 5, none⟩ = some (.bool false) := G.out.2.1.cell' (i := 5) rfl
        have a6 : W3.cell? ⟨w.heap.size, 6, none⟩ = some (.bool false) := G.out.2.1.cell' (i := 6) rfl
        have a7 : W3.cell? ⟨w.heap.size, 7, none⟩ = some (.bool false) := G.out.2.1.cell' (i := 7) rfl
        have a8 : W3.cell? ⟨w.heap.size, 8, none⟩ = some (.int .i64 0) := G.out.2.1.cell' (i := 8) rfl
        have a9 : W3.cell? ⟨w.heap.size, 9, none⟩ = some (.int .i64 0) := G.out.2.1.cell' (i := 9) rfl
        have f0 := G.out.2.1.frozen 0
        have f1 := G.out.2.1.frozen 1
        have f2 := G.out.2.1.frozen 2
        have f3 := G.out.2.1.frozen 3
        have f4 := G.out.2.1.frozen 4
        have f5 := G.out.2.1.frozen 5
        have f6 := G.out.2.1.frozen 6
        have f7 := G.out.2.1.frozen 7
        have f8 := G.out.2.1.frozen 8
        have f9 := G.out.2.1.frozen 9
        have g0 := G.out.2.2.1.frozen 0
        have g1 := G.out.2.2.1.frozen 1
        have hl1 := G.out.1.lt
        go_region
        go_wp2_with (fail)
        rw [Exit.noGoto_ret]
        have R := set_results rfl er (a : Int) sp.f G.out.2.1 G.out.2.2.1 G.out.2.2.2
        exact parse_door (f := sp.f) rfl rfl R.1.drew R.2.1.drew (by simp) (gr_drew R.2.2) (Nat.le_refl _) ⟨by rw [hr.out, if_neg HE.out], by rw [hr.out], by rw [hr.out]⟩
    · obtain rfl : k = L.length := by omega
      have HT2 := Lib.hid (HT.out.1.below hbel (Nat.le_refl _))
      have H := Lib.hid (And.intro hrun (And.intro hbB (And.intro hbA (And.intro hbF (And.intro hbL (And.intro hbel hok))))))
      clear hrun hbB hbA hbF hbL hbel hok
      go_wp2_with (fail)
      refine (fcheckB (w.heap.size + 1 + 1) st H.out.2.2.2.2.2.2 _ HT2.out H.out.2.1).mono ?_
      rintro e W2 ⟨rfl, h2⟩
      clear hf0 hf1 hc0 hc1 hl3
      have K := Lib.hid (And.intro (H.out.2.1.call h2) (And.intro (H.out.2.2.1.call h2) (And.intro (H.out.2.2.2.1.call h2) (gr_call H.out.2.2.2.2.2.1 h2))))
      clear h2
      have hf0 := K.out.2.2.1.frozen 0
      have hc0 := K.out.2.2.1.cell' (i := 0) (v := .int .i64 0) rfl
      have hz2 := K.out.2.2.1.lt
      obtain ⟨er, her⟩ : ∃ er, er = wholeP st := ⟨_, rfl⟩
      have HER := Lib.hid her
      rw [← her]
      clear her
      go_wp2_with (fail)
      obtain ⟨W3, hW3⟩ : ∃ W3, W3 = W2.setCell ⟨w.heap.size + 1, 0, none⟩ (.int .i64 er) := ⟨_, rfl⟩
      have G := Lib.hid (set_fault1 er K.out.1 K.out.2.1 K.out.2.2.1 K.out.2.2.2)
      rw [← hW3] at G ⊢
      have hr : Hid (doneR (runP (partsF s) zeroPut 1) = ((if er = 0 then st.f else zeroF), er, 0)) := Lib.hid (by rw [← HL.out, H.out.1, runP_end (Nat.le_refl _), done_end, ← HER.out])
      clear hW3 hf0 hc0 hz2 K H HER
      have c0 : W3.cell? ⟨w.heap.size + 1 + 1, 0, none⟩ = some (.bool st.f.last) := G.out.1.cell' (i := 0) rfl
      have c1 : W3.cell? ⟨w.heap.size + 1 + 1, 1, none⟩ = some (.bool st.f.next) := G.out.1.cell' (i := 1) rfl
      have c2 : W3.cell? ⟨w.heap.size + 1 + 1, 2, none⟩ = some (.bool st.f.chain) := G.out.1.cell' (i := 2) rfl
      have c3 : W3.cell? ⟨w.heap.size + 1 + 1, 3, none⟩ = some (.bool st.f.fin) := G.out.1.cell' (i := 3) rfl
      have c4 : W3.cell? ⟨w.heap.size + 1 + 1, 4, none⟩ = some (.bool st.f.forb) := G.out.1.cell' (i := 4) rfl
      have c5 : W3.cell? ⟨w.heap.size + 1 + 1, 5, none⟩ = some (.bool st.f.gone) := G.out.1.cell' (i := 5) rfl
      have c6 : W3.cell? ⟨w.heap.size + 1 + 1, 6, none⟩ = some (.bool st.f.app) := G.out.1.cell' (i := 6) rfl
      have c7 : W3.cell? ⟨w.heap.size + 1 + 1, 7, none⟩ = some (.bool st.f.disc) := G.out.1.cell' (i := 7) rfl
      have c8 : W3.cell? ⟨w.heap.size + 1 + 1, 8, none⟩ = some (.int .i64 st.f.skip) := G.out.1.cell' (i := 8) rfl
      have c9 : W3.cell? ⟨w.heap.size + 1 + 1, 9, none⟩ = some (.int .i64 st.f.red) := G.out.1.cell' (i := 9) rfl
      have d0 := G.out.2.2.1.cell' (i := 0) (v := .int .i64 er) rfl
      have d1 := G.out.2.2.1.cell' (i := 1) (v := .int .i64 0) rfl
      have a0 : W3.cell? ⟨w.heap.size, 0, none⟩ = some (.bool false) := G.out.2.1.cell' (i := 0) rfl
      have a1 : W3.cell? ⟨w.heap.size, 1, none⟩ = some (.bool false) := G.out.2.1.cell' (i := 1) rfl
      have a2 : W3.cell? ⟨w.heap.size, 2, none⟩ = some (.bool false) := G.out.2.1.cell' (i := 2) rfl
      have a3 : W3.cell? ⟨w.heap.size, 3, none⟩ = some (.bool false) := G.out.2.1.cell' (i := 3) rfl
      have a4 : W3.cell? ⟨w.heap.size, 4, none⟩ = some (.bool false) := G.out.2.1.cell' (i := 4) rfl
      have a5 : W3.cell? ⟨w.heap.size, 5, none⟩ = some (.bool false) := G.out.2.1.cell' (i := 5) rfl
      have a6 : W3.cell? ⟨w.heap.size, 6, none⟩ = some (.bool false) := G.out.2.1.cell' (i := 6) rfl
      have a7 : W3.cell? ⟨w.heap.size, 7, none⟩ = some (.bool false) := G.out.2.1.cell' (i := 7) rfl
      have a8 : W3.cell? ⟨w.heap.size, 8, none⟩ = some (.int .i64 0) := G.out.2.1.cell' (i := 8) rfl
      have a9 : W3.cell? ⟨w.heap.size, 9, none⟩ = some (.int .i64 0) := G.out.2.1.cell' (i := 9) rfl
      have f0 := G.out.2.1.frozen 0
      have f1 := G.out.2.1.frozen 1
      have f2 := G.out.2.1.frozen 2
      have f3 := G.out.2.1.frozen 3
      have f4 := G.out.2.1.frozen 4
      have f5 := G.out.2.1.frozen 5
      have f6 := G.out.2.1.frozen 6
      have f7 := G.out.2.1.frozen 7
      have f8 := G.out.2.1.frozen 8
      have f9 := G.out.2.1.frozen 9
      have g0 := G.out.2.2.1.frozen 0
      have g1 := G.out.2.2.1.frozen 1
      have hl1 := G.out.1.lt
      go_region
      go_wp2_with (fail)
      rw [Exit.noGoto_ret]
      have R := set_results rfl er 0 st.f G.out.2.1 G.out.2.2.1 G.out.2.2.2
      exact parse_door (f := st.f) rfl rfl R.1.drew R.2.1.drew (by simp) (gr_drew R.2.2) (Nat.le_refl _) ⟨by rw [hr.out], by rw [hr.out], by rw [hr.out]; rfl⟩
/-- What flag.Parse returns. -/
def parseS (s : ByteArray) : Flg × Int × Nat := parseF (partsF s) s
theorem fparse (s : ByteArray) (hs : s.size ≤ 1000000) (w : World) (hT : Tabs w) (hm : MaxOk w) : Calls Tryd.prog 10 #[.string s] w (ParsePost w (parseS s)) := by
  unfold parseS parseF
  by_cases h0 : s.size = 0
  · rw [if_pos h0]
    obtain rfl := empty_of_size h0
    exact fparse_empty w
  · rw [if_neg h0]
    by_cases h1 : byS s 0 = 91
    · rw [if_neg (by simp [h1])]
      by_cases h2 : s.size = 1
      · rw [if_pos h2]
        exact fparse_one s h2 h1 w
      · rw [if_neg h2]
        by_cases h3 : byS s (s.size - 1) = 93
        · rw [if_neg (by simp [h3])]
          exact fparse_main s (by omega) hs h1 h3 w hT hm
        · rw [if_pos h3]
          exact fparse_tail s (by omega) hs h1 h3 w
    · rw [if_pos h1]
      exact fparse_head s (by omega) hs h1 w
end Go.Proofs.YtlipjagdlpkjpaaDoor
