/-
  strconv.ParseUint of two bytes in base 16, walked: their number, or an error (the inner function); no condition.
  strconv.ParseUint of two bytes in base 16, walked: their number, or an error; condition: the variable ErrSyntax holds an interface value.
  Rows of this program's table of types that the walks ask for; no condition.
  A region whose order is drawn, walked by what is known of each slot: one proof for each operation, whatever the order; no condition.
  A region whose order is drawn, walked by what is known of each slot, with a tail whose order is forced (stores), and with fresh blocks that differ; no condition.
-/
import Derived.Lib.Strings
import Derived.Lib.Walk
import Derived.Lib.ConvBytes
import Derived.Lib.ParseIntBMem
import Derived.Laws.Strings3
import Derived.Laws.Closers25
import Derived.Laws.Closers25b
import Derived.WalkKit
import Derived.BigCall
import Derived.BigGuard
import Derived.KernelRfl
import Derived.Orders
import Derived.Test.YthpcbaamkeiffaaGreatDoorMRwQt
import Derived.Test.YthpcbaamkeiffaaGreatDoorMShelf
import Derived.Test.YthpcbaamkeiffaaGreatDoorProg
import Derived.Test.YthpcbaamkeiffaaGreatDoorMRwFn
namespace Go.Proofs.YthpcbaamkeiffaaGreatDoor
open Go.RowKit Go.Shelf
set_option linter.unusedVariables false
set_option linter.unusedSimpArgs false

/-- The number of hexadecimal digits, behind what is read. -/
def hx16 : Nat → List UInt8 → Option Nat
  | acc, [] => some acc
  | acc, c :: t => if 0 ≤ hexv c then hx16 (acc * 16 + (hexv c).toNat) t else none
theorem hx16_two (a b : UInt8) : hx16 0 [a, b] = if 0 ≤ hexv a ∧ 0 ≤ hexv b then some (16 * (hexv a).toNat + (hexv b).toNat) else none := by
  unfold hx16
  by_cases h1 : 0 ≤ hexv a
  · rw [if_pos h1]
    unfold hx16
    by_cases h2 : 0 ≤ hexv b
    · rw [if_pos h2, if_pos ⟨h1, h2⟩]
      unfold hx16
      congr 1; omega
    · rw [if_neg h2, if_neg (fun h => h2 h.2)]
  · rw [if_neg h1, if_neg (fun h => h1 h.1)]
theorem hex_class (c : UInt8) : (48 ≤ c.toNat ∧ c.toNat ≤ 57 ∧ hexv c = c.toNat - 48) ∨
    (c.toNat ≠ 95 ∧ ¬ (48 ≤ c.toNat ∧ c.toNat ≤ 57) ∧ 97 ≤ bits .or .u8 (c.toNat : Int) 32 ∧ bits .or .u8 (c.toNat : Int) 32 ≤ 102 ∧ hexv c = bits .or .u8 (c.toNat : Int) 32 - 97 + 10) ∨
    (c.toNat ≠ 95 ∧ ¬ (48 ≤ c.toNat ∧ c.toNat ≤ 57) ∧ 103 ≤ bits .or .u8 (c.toNat : Int) 32 ∧ bits .or .u8 (c.toNat : Int) 32 ≤ 122 ∧ hexv c = -1) ∨
    (c.toNat ≠ 95 ∧ ¬ (48 ≤ c.toNat ∧ c.toNat ≤ 57) ∧ bits .or .u8 (c.toNat : Int) 32 < 97 ∧ hexv c = -1) ∨
    (c.toNat ≠ 95 ∧ ¬ (48 ≤ c.toNat ∧ c.toNat ≤ 57) ∧ 122 < bits .or .u8 (c.toNat : Int) 32 ∧ hexv c = -1) ∨
    (c.toNat = 95 ∧ 122 < bits .or .u8 (c.toNat : Int) 32 ∧ hexv c = -1) :=
  u8_all (p := fun c => (48 ≤ c.toNat ∧ c.toNat ≤ 57 ∧ hexv c = c.toNat - 48) ∨
    (c.toNat ≠ 95 ∧ ¬ (48 ≤ c.toNat ∧ c.toNat ≤ 57) ∧ 97 ≤ bits .or .u8 (c.toNat : Int) 32 ∧ bits .or .u8 (c.toNat : Int) 32 ≤ 102 ∧ hexv c = bits .or .u8 (c.toNat : Int) 32 - 97 + 10) ∨
    (c.toNat ≠ 95 ∧ ¬ (48 ≤ c.toNat ∧ c.toNat ≤ 57) ∧ 103 ≤ bits .or .u8 (c.toNat : Int) 32 ∧ bits .or .u8 (c.toNat : Int) 32 ≤ 122 ∧ hexv c = -1) ∨
    (c.toNat ≠ 95 ∧ ¬ (48 ≤ c.toNat ∧ c.toNat ≤ 57) ∧ bits .or .u8 (c.toNat : Int) 32 < 97 ∧ hexv c = -1) ∨
    (c.toNat ≠ 95 ∧ ¬ (48 ≤ c.toNat ∧ c.toNat ≤ 57) ∧ 122 < bits .or .u8 (c.toNat : Int) 32 ∧ hexv c = -1) ∨
    (c.toNat = 95 ∧ 122 < bits .or .u8 (c.toNat : Int) 32 ∧ hexv c = -1)) (by decide +kernel) c
/-- What the inner ParseUint hands back. -/
def puV : Option Nat → Value
  | some n => .tuple #[.int .u64 (n : Int), .nilIface]
  | none => .tuple #[.int .u64 0, .iface 245 (.int .i64 2)]

set_option maxHeartbeats 32000000 in
set_option maxRecDepth 100000 in
theorem pu16 (t : ByteArray) (h2 : t.size = 2) (w : World) :
    Calls Tryz.prog 167 #[.string t, .int .i64 16, .int .i64 8] w fun e w' => e = .returned (puV (hx16 0 t.data.toList)) ∧ w' = Lib.bytesWorld w 5 t := by
  have hemp : t.toList.isEmpty = false := by
    rw [← decide_eq_emptyBytes]
    exact decide_eq_false (fun h => by rw [h] at h2; cases h2)
  have hcv := Lib.run_convert_string_bytes (P := Tryz.prog) w 9 123 5 t (u := .string) Tryz.underlying9 Tryz.underlying123 Tryz.underlying5
  have hB : ∀ j, j < t.size → (Lib.bytesWorld w 5 t).cell? ⟨w.heap.size, j, none⟩ = some (.int .u8 (t.data.toList.getD j 0).toNat) := fun j hj => Lib.bytesWorld_cell w 5 t j hj
  obtain ⟨W1, hW1⟩ : ∃ W1, W1 = Lib.bytesWorld w 5 t := ⟨_, rfl⟩
  rw [← hW1] at hcv hB ⊢
  clear hW1
  obtain ⟨bs, hL⟩ : ∃ bs, bs = t.data.toList := ⟨_, rfl⟩
  have hLn : bs.length = t.size := by rw [hL, size_data]
  rw [← hL] at hB ⊢
  clear hL
  have hmv : IntKind.u64.wrap (IntKind.u64.wrap 256 - 1) = 255 := by
    rw [IntKind.wrap_u64, IntKind.wrap_u64]
    decide
  go_enter Tryz.func167, Tryz.ntmps167
  go_wp2
  go_loop [12, 13, 101] (fun vu vn vi => ∃ (k acc : Nat) (a : Int), vu = .bool false ∧ vn = .int .u64 a ∧ vi = .int .i64 k ∧ k ≤ t.size ∧ Hid (a = (acc : Int) ∧ acc ≤ 255 ∧ (k < 2 → acc ≤ 15) ∧ (k = 0 → acc = 0) ∧ hx16 0 bs = hx16 acc (bs.drop k)))
    (fun _ _ vi => t.size - (intOf vi).toNat)
  case atStart => exact ⟨0, 0, 0, rfl, rfl, rfl, by omega, rfl, by omega, fun _ => by omega, fun _ => rfl, rfl⟩
  case round =>
    obtain ⟨k, acc, a, rfl, rfl, rfl, hk, hh⟩ := hrel
    obtain ⟨ha, hacc, hac2, hac0, hdec⟩ := hh.out
    clear hh
    have a0 : 0 ≤ a := by omega
    have a1 : a ≤ 255 := by omega
    by_cases hkn : k < t.size
    · have a2 : a ≤ 15 := by have := hac2 (by omega); omega
      have hc := hB k hkn
      have hdrop : bs.drop k = bs[k]'(by omega) :: bs.drop (k + 1) := List.drop_eq_getElem_cons (by omega)
      have hget : bs.getD k 0 = bs[k]'(by omega) := by simp [List.getD, List.getElem?_eq_getElem (show k < bs.length by omega)]
      rw [hdrop] at hdec
      rw [hget] at hc
      generalize bs[k]'(by omega) = c at hc hdec
      have hc256 : c.toNat < 256 := c.toNat_lt
      clear hB hdrop hget
      have hcl := hex_class c
      have hlow := fun W => Tryz.internal_strconv_lower (c.toNat : Int) W
      have hv0 := bits_lo_u8 .or (c.toNat : Int) 32
      have hv1 := bits_hi_u8 .or (c.toNat : Int) 32
      obtain ⟨L, hLL⟩ : ∃ L, L = bits .or .u8 (c.toNat : Int) 32 := ⟨_, rfl⟩
      rw [← hLL] at hcl hlow hv0 hv1
      clear hLL
      have bad : hexv c = -1 → hx16 0 bs = none := fun h => by
        rw [hdec]; unfold hx16; rw [h, if_neg (by decide)]
      have good : ∀ v : Int, 0 ≤ v → v ≤ 15 → hexv c = v → Hid (a * 16 + v = ((acc * 16 + v.toNat : Nat) : Int) ∧ acc * 16 + v.toNat ≤ 255 ∧ (k + 1 < 2 → acc * 16 + v.toNat ≤ 15) ∧ (k + 1 = 0 → acc * 16 + v.toNat = 0) ∧ hx16 0 bs = hx16 (acc * 16 + v.toNat) (bs.drop (k + 1))) := fun v h0 h1 h => by
        refine Lib.hid ⟨by omega, by omega, fun hk1 => ?_, fun h => by omega, ?_⟩
        · have := hac0 (by omega); omega
        · rw [hdec]
          conv => lhs; unfold hx16
          rw [h, if_pos h0]
      clear hdec hac0 hac2 hacc
      have st : ∀ v : Int, 0 ≤ v → v ≤ 15 → IntKind.u8.wrap v = v := fun v h0 h1 => by rw [IntKind.wrap_u8]; omega
      rcases hcl with ⟨b0, b1, b2⟩ | ⟨n95, b0, b1, b2, b3⟩ | ⟨n95, b0, b1, b2, b3⟩ | ⟨n95, b0, b1, b2⟩ | ⟨n95, b0, b1, b2⟩ | ⟨e95, b1, b2⟩
      · have HN := good ((c.toNat : Int) - 48) (by omega) (by omega) b2
        clear bad good b2 hlow
        have n95 : ¬ ((c.toNat : Int) = 95) := by omega
        clear ha st
        go_wp2
        refine ⟨⟨k + 1, acc * 16 + ((c.toNat : Int) - 48).toNat, a * 16 + ((c.toNat : Int) - 48), rfl, (by first | rfl | (congr 1; omega)), (by first | rfl | (congr 1; omega)), by omega, HN⟩, by simp [intOf]; omega⟩
      · have HN := good (L - 97 + 10) (by omega) (by omega) b3
        have n95i : ¬ ((c.toNat : Int) = 95) := by omega
        clear bad good b3 ha
        go_wp2_with (go_at_call 179; refine (hlow _).mono ?_; rintro e w' ⟨rfl, rfl⟩)
        all_goals refine ⟨⟨k + 1, acc * 16 + (L - 97 + 10).toNat, a * 16 + (L - 97 + 10), rfl, (by first | rfl | (congr 1; omega)), (by first | rfl | (congr 1; omega)), by omega, HN⟩, by simp [intOf]; omega⟩
      · have HN := Lib.hid (bad b3)
        have n95i : ¬ ((c.toNat : Int) = 95) := by omega
        clear bad good b3 ha
        go_wp2_with (go_at_call 179; refine (hlow _).mono ?_; rintro e w' ⟨rfl, rfl⟩)
        all_goals go_ret2
        all_goals exact ⟨by rw [HN.out]; rfl, rfl⟩
      · have HN := Lib.hid (bad b2)
        have n95i : ¬ ((c.toNat : Int) = 95) := by omega
        clear bad good b2 ha
        go_wp2_with (go_at_call 179; refine (hlow _).mono ?_; rintro e w' ⟨rfl, rfl⟩)
        all_goals go_ret2
        all_goals exact ⟨by rw [HN.out]; rfl, rfl⟩
      · have HN := Lib.hid (bad b2)
        have n95i : ¬ ((c.toNat : Int) = 95) := by omega
        clear bad good b2 ha
        go_wp2_with (go_at_call 179; refine (hlow _).mono ?_; rintro e w' ⟨rfl, rfl⟩)
        all_goals go_ret2
        all_goals exact ⟨by rw [HN.out]; rfl, rfl⟩
      · have HN := Lib.hid (bad b2)
        have e95i : (c.toNat : Int) = 95 := by omega
        rw [e95i] at hc hlow
        clear bad good b2 ha e95 e95i hc256
        go_wp2_with (go_at_call 179; refine (hlow _).mono ?_; rintro e w' ⟨rfl, rfl⟩)
        all_goals go_ret2
        all_goals exact ⟨by rw [HN.out]; rfl, rfl⟩
    · have hkk : k = t.size := by omega
      subst hkk
      rw [List.drop_eq_nil_of_le (by omega)] at hdec
      have HF := Lib.hid (hdec.trans (show hx16 acc [] = some acc from rfl))
      subst ha
      clear hacc hdec a0 a1 hac2 hac0
      go_wp2
      go_ret2
      exact ⟨by rw [HF.out]; rfl, rfl⟩
end Go.Proofs.YthpcbaamkeiffaaGreatDoor
namespace Go.Proofs.YthpcbaamkeiffaaGreatDoor
open Go.RowKit Go.Shelf
set_option linter.unusedVariables false
set_option linter.unusedSimpArgs false

/-- A package's variable that holds an error, or none. -/
def ErrV (w : World) (g : Nat) : Prop := ∃ ev, w.cell? ⟨g, 0, none⟩ = some ev ∧ (ev = .nilIface ∨ ∃ te pe, ev = .iface te pe)
theorem ErrV.lt {w : World} {g : Nat} (h : ErrV w g) : g < w.heap.size := by
  obtain ⟨ev, h1, _⟩ := h
  refine Nat.lt_of_not_le fun hge => ?_
  have : w.heap[g]? = none := Array.getElem?_eq_none hge
  unfold World.cell? at h1
  rw [this] at h1
  cases h1
theorem ErrV.at_ {w w' : World} {g : Nat} (h : ErrV w g) (hb : w'.heap[g]? = w.heap[g]?) : ErrV w' g := by
  obtain ⟨ev, h1, h2⟩ := h
  exact ⟨ev, (World.cell?_of_block (w := w) (w' := w') (a := ⟨g, 0, none⟩) hb).trans h1, h2⟩
theorem ErrV.below {w w' : World} {g B : Nat} (h : ErrV w g) (hb : Below B w w') (hB : g < B) : ErrV w' g := h.at_ (hb.block g hB)
theorem ErrV.belowX {w w' : World} {g B b : Nat} (h : ErrV w g) (hb : BelowX B b w w') (hB : g < B) (hg : g ≠ b) : ErrV w' g := h.at_ (hb.block g hB hg)
theorem ErrV.grown {w w' : World} {g : Nat} {row : Option Nat} (h : ErrV w g) (hb : w.grownBy w' row) (hg : some g ≠ row) : ErrV w' g := h.at_ (hb.block g h.lt hg)

/-- What ParseUint hands back: the number, or some error. -/
def PuR (r : Option Nat) (e : Ending) : Prop := match r with
  | some n => e = .returned (.tuple #[.int .u64 (n : Int), .nilIface])
  | none => ∃ N, e = .returned (.tuple #[.int .u64 0, .iface 247 (.pointer (some ⟨N, 0, none⟩))])
set_option maxRecDepth 100000 in
set_option maxHeartbeats 2000000 in
theorem pu (t : ByteArray) (h2 : t.size = 2) (w : World) (hv : ErrV w 7) :
    Calls Tryz.prog 149 #[.string t, .int .i64 16, .int .i64 8] w fun e w' => PuR (hx16 0 t.data.toList) e ∧ Below w.heap.size w w' := by
  have hp := pu16 t h2 w
  obtain ⟨W1, hW1⟩ : ∃ W1, W1 = Lib.bytesWorld w 5 t := ⟨_, rfl⟩
  have hb1 : Below w.heap.size w W1 := by rw [hW1]; exact Lib.bytesWorld_below w _ t
  rw [← hW1] at hp
  have hv1 := hv.below hb1 hv.lt
  clear hW1
  cases hr : hx16 0 t.data.toList with
  | some n =>
    rw [hr] at hp
    clear hr hv hv1
    go_enter Tryz.func149, Tryz.ntmps149
    go_wp2_with (fail)
    refine hp.mono ?_
    rintro e w' ⟨rfl, rfl⟩
    unfold puV
    go_wp2_with (fail)
    go_ret2
    exact ⟨rfl, hb1⟩
  | none =>
    rw [hr] at hp
    obtain ⟨ev, c0, hev⟩ := hv1
    have ht := Tryz.strconv_toError_syntax ⟨#[80, 97, 114, 115, 101, 85, 105, 110, 116]⟩ t 16 8 ev W1 (by omega) c0 hev
    clear hr hv hev c0
    go_enter Tryz.func149, Tryz.ntmps149
    go_wp2_with (fail)
    refine hp.mono ?_
    rintro e w' ⟨rfl, rfl⟩
    unfold puV
    go_wp2_with (fail)
    refine ht.mono ?_
    rintro e w2 ⟨N, rfl, _, _, hb2⟩
    go_wp2_with (fail)
    go_ret2
    exact ⟨⟨N, rfl⟩, hb1.trans (hb2.mono hb1.size)⟩
end Go.Proofs.YthpcbaamkeiffaaGreatDoor
namespace Go.Proofs.YthpcbaamkeiffaaGreatDoor
theorem infoByte : (Tryz.prog.info? 5).map (fun i => (i.zero, i.size, i.bytes)) = some (some (.int .u8 0), 1, 1) := by kernel_rfl
end Go.Proofs.YthpcbaamkeiffaaGreatDoor
namespace Go.Proofs.YthpcbaamkeiffaaGreatDoor
open Go.RowKit
set_option linter.unusedVariables false

section
variable {P : Program} {ops : Array Oper} {Q : Exit → Act → World → Prop}

/-- How many operations are not yet listed. -/
def unlisted (ops : Array Oper) (listed : Array Bool) : Nat := (List.range ops.size).countP fun i => !listed.getD i true

theorem countP_lt {p q : Nat → Bool} {i : Nat} : ∀ (l : List Nat), (∀ j, q j = true → p j = true) → i ∈ l → p i = true → q i = false → l.countP q < l.countP p := by
  intro l
  induction l with
  | nil => intro _ h; cases h
  | cons x l ih =>
    intro hpq hi hp hq
    have hle : l.countP q ≤ l.countP p := by
      clear ih hi
      induction l with
      | nil => simp
      | cons y l ih =>
        rw [List.countP_cons, List.countP_cons]
        have := hpq y
        by_cases hy : q y = true
        · rw [if_pos hy, if_pos (this hy)]; omega
        · rw [if_neg hy]; omega
    rw [List.countP_cons, List.countP_cons]
    rcases List.mem_cons.1 hi with rfl | hi
    · rw [if_neg (by rw [hq]; decide), if_pos hp]; omega
    · have := ih hpq hi hp hq
      have hx := hpq x
      by_cases hy : q x = true
      · rw [if_pos hy, if_pos (hx hy)]; omega
      · rw [if_neg hy]; omega

theorem unlisted_set {listed : Array Bool} {i : Nat} (hi : i ∈ Region.ready .any ops listed) : unlisted ops (listed.setIfInBounds i true) < unlisted ops listed := by
  obtain ⟨h0, o, ho, _⟩ := mem_ready.1 hi
  have hlt : i < ops.size := (Array.getElem?_eq_some_iff.1 ho).1
  refine countP_lt _ (fun j hj => ?_) (List.mem_range.2 hlt) (by simp only [h0]; rfl) ?_
  · by_cases e : i = j
    · subst e; simp only [h0]; rfl
    · rw [getD_set_ne true e] at hj; exact hj
  · have hb : i < listed.size := by
      rcases Nat.lt_or_ge i listed.size with h | h
      · exact h
      · simp [Array.getElem?_eq_none h] at h0
    simp [hb]

theorem unlisted_ready {listed : Array Bool} (h : unlisted ops listed = 0) : Region.ready .any ops listed = [] := by
  cases hr : Region.ready .any ops listed with
  | nil => rfl
  | cons x xs =>
    have hx : x ∈ Region.ready .any ops listed := by rw [hr]; exact List.mem_cons_self
    have := unlisted_set hx
    omega

/-- A drawn region by an invariant: what each operation that may come next keeps, and what it says when none is left. -/
theorem wpAny_inv (R : Array Bool → Act → World → Prop)
    (hstep : ∀ listed a w i, R listed a w → i ∈ Region.ready .any ops listed → wpOp P ops Q i (R (listed.setIfInBounds i true)) a w)
    (hend : ∀ listed a w, R listed a w → Region.ready .any ops listed = [] → Q .normal a w) :
    ∀ fuel listed a w, unlisted ops listed ≤ fuel → R listed a w → wpAny P .any ops Q fuel listed a w := by
  intro fuel
  induction fuel with
  | zero =>
    intro listed a w hu hR
    have hr := unlisted_ready (ops := ops) (listed := listed) (by omega)
    exact ⟨hr, hend _ _ _ hR hr⟩
  | succ fuel ih =>
    intro listed a w hu hR
    refine ⟨fun hr => hend _ _ _ hR hr, fun i hi => ?_⟩
    exact wpOp_mono (fun a' w' h => ih _ a' w' (by have := unlisted_set hi; omega) h) (hstep _ _ _ _ hR hi)

/-- What is known in the midst of a region: the world has w0's blocks as w0 had them; a slot that the region does not write is as it was; a listed operation's slot is as S says. -/
def Known (w0 : World) (a0 : Act) (ops : Array Oper) (S : Nat → World → Value → Prop) (listed : Array Bool) (a : Act) (w : World) : Prop :=
  Below w0.heap.size w0 w ∧ a.defers = a0.defers ∧ a.tmps.size = a0.tmps.size ∧
  (∀ d, (ops.all fun o => o.dst != some d) = true → a.eval (.tmp d) = a0.eval (.tmp d)) ∧
  (∀ j o d, ops[j]? = some o → listed.getD j false = true → o.dst = some d → S d w (a.eval (.tmp d)))

/-- No two operations write one slot, each writes one that there is. -/
def Apart (ops : Array Oper) (size : Nat) : Bool :=
  (List.range ops.size).all fun i => (List.range ops.size).all fun j =>
    match (ops[i]?).bind (·.dst), (ops[j]?).bind (·.dst) with
    | some d, some e => (d != e || i == j) && decide (d < size)
    | some d, none => decide (d < size)
    | none, _ => true

theorem apart_at {size : Nat} (h : Apart ops size = true) {i j : Nat} {oi oj : Oper} {d : Nat} (hi : ops[i]? = some oi) (hj : ops[j]? = some oj) (di : oi.dst = some d) (dj : oj.dst = some d) : i = j ∧ d < size := by
  have h1 := List.all_eq_true.1 (List.all_eq_true.1 h i (List.mem_range.2 (Array.getElem?_eq_some_iff.1 hi).1)) j (List.mem_range.2 (Array.getElem?_eq_some_iff.1 hj).1)
  simp only [hi, hj, Option.bind_some, di, dj] at h1
  simpa using h1

theorem eval_put_same (a : Act) (d : Nat) (v : Value) (h : d < a.tmps.size) : (a.put (some d) v).eval (.tmp d) = v := by
  simp [Act.put, Act.eval, h]
theorem eval_put_other (a : Act) (d e : Nat) (v : Value) (h : d ≠ e) : (a.put (some d) v).eval (.tmp e) = a.eval (.tmp e) := by
  simp [Act.put, Act.eval, Array.getElem?_setIfInBounds_ne h]

theorem Known.put {w0 : World} {a0 : Act} {S : Nat → World → Value → Prop} {listed : Array Bool} {a : Act} {w w' : World} {i : Nat} {o : Oper} {v : Value}
    (hap : Apart ops a0.tmps.size = true) (hS : ∀ d w w' v, Below w.heap.size w w' → S d w v → S d w' v)
    (h : Known w0 a0 ops S listed a w) (hi : ops[i]? = some o) (hB : Below w.heap.size w w') (hv : ∀ d, o.dst = some d → S d w' v) :
    Known w0 a0 ops S (listed.setIfInBounds i true) (a.put o.dst v) w' := by
  obtain ⟨h1, h2, h3, h4, h5⟩ := h
  have hold : ∀ j oj d, ops[j]? = some oj → (listed.setIfInBounds i true).getD j false = true → j ≠ i → oj.dst = some d → S d w' (a.eval (.tmp d)) := fun j oj d hj hl hne hd => by
    rw [getD_set_ne false (Ne.symm hne)] at hl
    exact hS _ _ _ _ hB (h5 j oj d hj hl hd)
  refine ⟨h1.trans (hB.mono h1.size), by cases o.dst <;> exact h2, ?_, fun d hd => ?_, fun j oj d hj hl hd => ?_⟩
  · cases o.dst with
    | none => exact h3
    | some d => simpa [Act.put] using h3
  · cases hod : o.dst with
    | none => exact h4 d hd
    | some e =>
      have hne : e ≠ d := by
        intro hed
        have := Array.all_eq_true'.1 hd o (Array.mem_of_getElem? hi)
        simp [hod, hed] at this
      rw [eval_put_other _ _ _ _ hne]
      exact h4 d hd
  · by_cases hji : j = i
    · subst hji
      obtain rfl : oj = o := Option.some.inj (hj.symm.trans hi)
      have hlt := (apart_at hap hi hi hd hd).2
      rw [hd, eval_put_same _ _ _ (by rw [h3]; exact hlt)]
      exact hv d hd
    · cases hod : o.dst with
      | none => exact hold j oj d hj hl hji hd
      | some e =>
        have hne : e ≠ d := fun hed => hji (apart_at hap hj hi hd (by rw [hod, hed])).1
        rw [eval_put_other _ _ _ _ hne]
        exact hold j oj d hj hl hji hd

theorem known_start {w0 : World} {a0 : Act} {S : Nat → World → Value → Prop} {w : World} (hB : Below w0.heap.size w0 w) : Known w0 a0 ops S (Array.replicate ops.size false) a0 w :=
  ⟨hB, rfl, rfl, fun _ _ => rfl, fun j o d hj hl _ => by
    rw [Array.getD_eq_getD_getElem?] at hl
    by_cases hlt : j < ops.size <;> simp [hlt] at hl⟩

/-- The slots of the operations that come before this one in every order. -/
def depSlots (ops : Array Oper) (o : Oper) : List Nat := o.after.toList.filterMap fun e => if Region.binds .any e then (ops[e.on]?).bind (·.dst) else none

/-- Every operation comes after earlier ones of the text only. -/
def Forward (ops : Array Oper) : Bool := (List.range ops.size).all fun i => ((ops[i]?).map fun o => o.after.all fun e => !Region.binds .any e || decide (e.on < i)).getD true

theorem all_listed (hf : Forward ops = true) {listed : Array Bool} (hs : listed.size = ops.size) (hr : Region.ready .any ops listed = []) : ∀ j, j < ops.size → listed.getD j false = true := by
  intro j
  induction j using Nat.strongRecOn with
  | ind j ih =>
    intro hj
    cases hl : listed.getD j false with
    | true => rfl
    | false =>
      exfalso
      have hjs : j < listed.size := by omega
      have hmem : j ∈ Region.ready .any ops listed := by
        refine mem_ready.2 ⟨?_, ops[j], Array.getElem?_eq_getElem hj, fun e he hb => ?_⟩
        · simp [hjs] at hl ⊢; exact hl
        · have h1 := List.all_eq_true.1 hf j (List.mem_range.2 hj)
          rw [Array.getElem?_eq_getElem hj, Option.map_some, Option.getD_some, Array.all_eq_true'] at h1
          have h2 := h1 e he
          rw [hb] at h2
          have h3 : e.on < j := by simpa using h2
          exact ih _ h3 (by omega)
      rw [hr] at hmem
      cases hmem

/-- What is to be shown of one operation: from what is known of the slots it depends on, it yields what S says of its own slot, and leaves all earlier blocks alone. -/
def StepOk (P : Program) (ops : Array Oper) (Q : Exit → Act → World → Prop) (w0 : World) (a0 : Act) (S : Nat → World → Value → Prop) (o : Oper) : Prop :=
  ∀ (a : Act) (w : World), Below w0.heap.size w0 w → a.tmps.size = a0.tmps.size →
    (∀ d, (ops.all fun o => o.dst != some d) = true → a.eval (.tmp d) = a0.eval (.tmp d)) →
    (∀ d ∈ depSlots ops o, S d w (a.eval (.tmp d))) →
    ∀ K : Act → World → Prop, (∀ v w', Below w.heap.size w w' → (∀ d, o.dst = some d → S d w' v) → K (a.put o.dst v) w') →
      if Region.wanted o (yielded ops a.tmps) then o.wp P a w K Q ∨ (o.asks P a w ∧ LetsOut Q) else K (a.put o.dst undef) w

/-- Each operation of a list. -/
def StepsOk (P : Program) (ops : Array Oper) (Q : Exit → Act → World → Prop) (w0 : World) (a0 : Act) (S : Nat → World → Value → Prop) : List Oper → Prop
  | [] => True
  | o :: rest => StepOk P ops Q w0 a0 S o ∧ StepsOk P ops Q w0 a0 S rest

theorem StepsOk.at {w0 : World} {a0 : Act} {S : Nat → World → Value → Prop} : ∀ {l : List Oper}, StepsOk P ops Q w0 a0 S l → ∀ o ∈ l, StepOk P ops Q w0 a0 S o := by
  intro l
  induction l with
  | nil => intro _ o ho; cases ho
  | cons x l ih =>
    intro h o ho
    rcases List.mem_cons.1 ho with rfl | ho
    · exact h.1
    · exact ih h.2 o ho

theorem lst_set {listed : Array Bool} {i : Nat} (hi : i < listed.size) : (fun j => (listed.setIfInBounds i true).getD j false) = fun j => j == i || listed.getD j false := by
  funext j
  by_cases h : i = j
  · subst h; simp [hi]
  · rw [getD_set_ne false h]
    have : (j == i) = false := by simpa using Ne.symm h
    rw [this, Bool.false_or]

theorem step_val {K : Act → World → Prop} {o : Oper} {a : Act} {w w' : World} {v : Value} (hr : (execOp a.eval o).run P w = .ok (.value v) w') (h : K (a.put o.dst v) w') : o.wp P a w K Q := by
  unfold Oper.wp
  rw [hr]
  exact h
theorem step_enter {K : Act → World → Prop} {o : Oper} {a : Act} {w w' : World} {f : FuncId} {args : Array Value} (hr : (execOp a.eval o).run P w = .ok (.enter f args) w') (hc : Calls P f args w' fun e w'' => ∃ v, e = .returned v ∧ K (a.put o.dst v) w'') : o.wp P a w K Q := by
  unfold Oper.wp
  rw [hr]
  exact hc.mono fun e w'' ⟨v, he, hk⟩ => by subst he; exact hk
end
end Go.Proofs.YthpcbaamkeiffaaGreatDoor
namespace Go.Proofs.YthpcbaamkeiffaaGreatDoor
open Go.RowKit
set_option linter.unusedVariables false

section
variable {P : Program} {ops : Array Oper} {Q : Exit → Act → World → Prop}

/-- The operations that come before this one by an edge that binds. -/
def deps (ops : Array Oper) (i : Nat) : List Nat := ((ops[i]?).map fun o => o.after.toList.filterMap fun e => if Region.binds .any e then some e.on else none).getD []

def cov (ops : Array Oper) : List Nat → List Nat → List Nat
  | [], M => M
  | j :: js, M => cov ops js (if M.contains j then deps ops j ++ M else M)

/-- Every operation from k on comes after all that stand before it in the text. -/
def Late (ops : Array Oper) (k : Nat) : Bool :=
  (List.range ops.size).all fun i => decide (i < k) || (let M := cov ops (List.range i).reverse (deps ops i); (List.range i).all fun j => M.contains j)

def Closed (ops : Array Oper) (D : Nat → Bool) : Prop := ∀ i, D i = true → ∀ j ∈ deps ops i, D j = true

theorem cov_done {D : Nat → Bool} (hD : Closed ops D) : ∀ (l M : List Nat), (∀ j ∈ M, D j = true) → ∀ j ∈ cov ops l M, D j = true := by
  intro l
  induction l with
  | nil => intro M h; exact h
  | cons x l ih =>
    intro M h
    refine ih _ ?_
    split
    · rename_i hx
      have hx' : x ∈ M := by simpa using hx
      intro j hj
      rcases List.mem_append.1 hj with hj | hj
      · exact hD x (h x hx') j hj
      · exact h j hj
    · exact h

theorem late_done {D : Nat → Bool} {k i : Nat} (hl : Late ops k = true) (hD : Closed ops D) (hi : i < ops.size) (hk : k ≤ i) (hd : ∀ j ∈ deps ops i, D j = true) : ∀ j, j < i → D j = true := by
  intro j hj
  have h1 := List.all_eq_true.1 hl i (List.mem_range.2 hi)
  simp only [Bool.or_eq_true, decide_eq_true_eq] at h1
  rcases h1 with h1 | h1
  · omega
  · have h2 := List.all_eq_true.1 h1 j (List.mem_range.2 hj)
    exact cov_done hD _ _ hd j (by simpa using h2)

/-- Slots whose values are pointers to fresh blocks. -/
def Apart2 (Dist : List Nat) (a : Act) (D : Nat → Bool) : Prop :=
  ∀ d ∈ Dist, ∀ e ∈ Dist, d ≠ e → D d = true → D e = true → ∀ g h, a.eval (.tmp d) = .pointer (some ⟨g, 0, none⟩) → a.eval (.tmp e) = .pointer (some ⟨h, 0, none⟩) → g ≠ h

/-- What is to be shown of one operation of the head. -/
def StepOk2 (P : Program) (ops : Array Oper) (Q : Exit → Act → World → Prop) (w0 : World) (a0 : Act) (S : Nat → World → Value → Prop) (Dist : List Nat) (o : Oper) : Prop :=
  ∀ (a : Act) (w : World), Below w0.heap.size w0 w → a.tmps.size = a0.tmps.size →
    (∀ d, (ops.all fun o => o.dst != some d) = true → a.eval (.tmp d) = a0.eval (.tmp d)) →
    (∀ d ∈ depSlots ops o, S d w (a.eval (.tmp d))) →
    ∀ K : Act → World → Prop, (∀ v w', Below w.heap.size w w' → (∀ d, o.dst = some d → S d w' v) → (∀ d, o.dst = some d → d ∈ Dist → ∃ g, v = .pointer (some ⟨g, 0, none⟩) ∧ w.heap.size ≤ g) → K (a.put o.dst v) w') →
      if Region.wanted o (yielded ops a.tmps) then o.wp P a w K Q ∨ (o.asks P a w ∧ LetsOut Q) else K (a.put o.dst undef) w

def StepsOk2 (P : Program) (ops : Array Oper) (Q : Exit → Act → World → Prop) (w0 : World) (a0 : Act) (S : Nat → World → Value → Prop) (Dist : List Nat) : List Oper → Prop
  | [] => True
  | o :: rest => StepOk2 P ops Q w0 a0 S Dist o ∧ StepsOk2 P ops Q w0 a0 S Dist rest

theorem StepsOk2.at {w0 : World} {a0 : Act} {S : Nat → World → Value → Prop} {Dist : List Nat} : ∀ {l : List Oper}, StepsOk2 P ops Q w0 a0 S Dist l → ∀ o ∈ l, StepOk2 P ops Q w0 a0 S Dist o := by
  intro l
  induction l with
  | nil => intro _ o ho; cases ho
  | cons x l ih =>
    intro h o ho
    rcases List.mem_cons.1 ho with rfl | ho
    · exact h.1
    · exact ih h.2 o ho

/-- Which slots are written. -/
def doneSlots (ops : Array Oper) (listed : Array Bool) (d : Nat) : Bool := (List.range ops.size).any fun j => listed.getD j false && ((ops[j]?).bind (·.dst) == some d)

theorem doneSlots_at {listed : Array Bool} {d : Nat} (h : doneSlots ops listed d = true) : ∃ j o, ops[j]? = some o ∧ listed.getD j false = true ∧ o.dst = some d := by
  obtain ⟨j, hj, h1⟩ := List.any_eq_true.1 h
  simp only [Bool.and_eq_true] at h1
  have hlt := List.mem_range.1 hj
  refine ⟨j, ops[j], Array.getElem?_eq_getElem hlt, h1.1, ?_⟩
  have h2 := h1.2
  rw [Array.getElem?_eq_getElem hlt, Option.bind_some] at h2
  simpa using h2

theorem wp_region_late {id : Nat} {l : List Oper} {a0 : Act} {w0 : World} (k : Nat) (Dist : List Nat) (S : Nat → World → Value → Prop) (hm : P.follows .mixedOrders = true)
    (hap : Apart l.toArray a0.tmps.size = true) (hf : Forward l.toArray = true) (hlate : Late l.toArray k = true) (hk : k ≤ l.length)
    (hS : ∀ d w w' v, Below w.heap.size w w' → S d w v → S d w' v)
    (hDist : ∀ d ∈ Dist, ∀ w v, S d w v → ∃ g, v = .pointer (some ⟨g, 0, none⟩) ∧ g < w.heap.size)
    (hsteps : StepsOk2 P l.toArray Q w0 a0 S Dist (l.take k))
    (hend : ∀ (a : Act) (w : World), Below w0.heap.size w0 w → a.tmps.size = a0.tmps.size → a.defers = a0.defers →
      (∀ d, (l.toArray.all fun o => o.dst != some d) = true → a.eval (.tmp d) = a0.eval (.tmp d)) →
      (∀ o ∈ l.take k, ∀ d, o.dst = some d → S d w (a.eval (.tmp d))) →
      (∀ d ∈ Dist, ∀ e ∈ Dist, d ≠ e → (l.take k).any (fun o => o.dst == some d) = true → (l.take k).any (fun o => o.dst == some e) = true → ∀ g h, a.eval (.tmp d) = .pointer (some ⟨g, 0, none⟩) → a.eval (.tmp e) = .pointer (some ⟨h, 0, none⟩) → g ≠ h) →
      wpList P l.toArray Q (l.drop k) a w) : (Code.region id l.toArray true).wp P Q a0 w0 := by
  refine wp_region_any hm ?_
  refine wpAny_inv (ops := l.toArray) (fun listed a w => listed.size = l.toArray.size ∧ Closed l.toArray (fun j => listed.getD j false) ∧
    (((∀ j, k ≤ j → listed.getD j false = false) ∧ Known w0 a0 l.toArray S listed a w ∧ Apart2 Dist a (doneSlots l.toArray listed)) ∨
      ∃ m, k < m ∧ m ≤ l.length ∧ (∀ j, listed.getD j false = decide (j < m)) ∧ wpList P l.toArray Q (l.drop m) a w)) ?_ ?_ _ _ _ _ ?_ ?_
  · rintro listed a w i ⟨hsz, hcl, hR⟩ hi
    obtain ⟨h0, o, ho, hall⟩ := mem_ready.1 hi
    have ho' : l[i]? = some o := by simpa using ho
    have hil : i < l.length := (List.getElem?_eq_some_iff.1 ho').1
    have hib : i < listed.size := by rw [hsz]; simpa using hil
    have h0' : listed.getD i false = false := by simp [hib] at h0 ⊢; exact h0
    have hdeps : ∀ j ∈ deps l.toArray i, (fun j => listed.getD j false) j = true := by
      intro j hj
      unfold deps at hj
      rw [ho] at hj
      simp only [Option.map_some, Option.getD_some] at hj
      obtain ⟨e, he, hej⟩ := List.mem_filterMap.1 hj
      split at hej
      · rename_i hb
        cases hej
        exact hall e (by simpa using he) hb
      · cases hej
    have hcl' : Closed l.toArray (fun j => (listed.setIfInBounds i true).getD j false) := by
      rw [lst_set hib]
      intro x hx j hj
      simp only [Bool.or_eq_true, beq_iff_eq] at hx ⊢
      rcases hx with rfl | hx
      · exact Or.inr (hdeps j hj)
      · exact Or.inr (hcl x hx j hj)
    have hs2 : (listed.setIfInBounds i true).size = l.toArray.size := by simpa using hsz
    have hls := lst_set hib
    unfold wpOp
    rw [ho]
    simp only
    rcases hR with ⟨hnone, hK, hA⟩ | ⟨m, hkm, hml, hlm, hT⟩
    · rcases Nat.lt_or_ge i k with hik | hik
      · have hmem : o ∈ l.take k := List.mem_of_getElem? (i := i) (by rw [List.getElem?_take, if_pos hik]; exact ho')
        have hK' := hK
        obtain ⟨h1, h2, h3, h4, h5⟩ := hK'
        refine hsteps.at o hmem a w h1 h3 h4 (fun d hd => ?_) _ (fun v w' hB hv hfr => ⟨hs2, hcl', Or.inl ⟨fun j hj => ?_, hK.put hap hS ho hB hv, ?_⟩⟩)
        · unfold depSlots at hd
          obtain ⟨e, he, hed⟩ := List.mem_filterMap.1 hd
          split at hed
          · rename_i hb
            cases hoj : l.toArray[e.on]? with
            | none => rw [hoj] at hed; cases hed
            | some oj =>
              rw [hoj] at hed
              exact h5 e.on oj d hoj (hall e (by simpa using he) hb) hed
          · cases hed
        · have := congrFun hls j
          rw [this, hnone j hj, Bool.or_false]
          have : j ≠ i := by omega
          simpa using this
        · -- distinct
          intro d hd e he hde hdd hee g h hg hh
          obtain ⟨jd, od, hjd, hld, hdd'⟩ := doneSlots_at hdd
          obtain ⟨je, oe, hje, hle, hee'⟩ := doneSlots_at hee
          have fjd := congrFun hls jd
          have fje := congrFun hls je
          rw [fjd] at hld
          rw [fje] at hle
          have old : ∀ jx ox dx, l.toArray[jx]? = some ox → jx ≠ i → ox.dst = some dx → (a.put o.dst v).eval (.tmp dx) = a.eval (.tmp dx) := by
            intro jx ox dx h1x h2x h3x
            cases hod : o.dst with
            | none => rfl
            | some y => exact eval_put_other _ _ _ _ (fun hy => h2x (apart_at hap h1x ho h3x (by rw [hod, hy])).1)
          have new : ∀ dx, o.dst = some dx → (a.put o.dst v).eval (.tmp dx) = v := by
            intro dx hx
            rw [hx, eval_put_same _ _ _ (by rw [h3]; exact (apart_at hap ho ho hx hx).2)]
          by_cases ed : jd = i
          · by_cases ee : je = i
            · subst ed; subst ee
              rw [hjd] at hje
              cases hje
              rw [hdd'] at hee'
              exact absurd (Option.some.inj hee') hde
            · subst ed
              rw [ho] at hjd
              cases hjd
              rw [new d hdd'] at hg
              rw [old je oe e hje ee hee'] at hh
              have hlx : listed.getD je false = true := by
                have : (je == jd) = false := by simpa using ee
                rw [this, Bool.false_or] at hle; exact hle
              obtain ⟨g', hv', hge⟩ := hfr d hdd' hd
              rw [hv'] at hg
              cases hg
              obtain ⟨h', hv2, hlt2⟩ := hDist e he _ _ (h5 je oe e hje hlx hee')
              rw [hh] at hv2
              cases hv2
              omega
          · by_cases ee : je = i
            · subst ee
              rw [ho] at hje
              cases hje
              rw [new e hee'] at hh
              rw [old jd od d hjd ed hdd'] at hg
              have hlx : listed.getD jd false = true := by
                have : (jd == je) = false := by simpa using ed
                rw [this, Bool.false_or] at hld; exact hld
              obtain ⟨g', hv', hge⟩ := hfr e hee' he
              rw [hv'] at hh
              cases hh
              obtain ⟨h', hv2, hlt2⟩ := hDist d hd _ _ (h5 jd od d hjd hlx hdd')
              rw [hg] at hv2
              cases hv2
              omega
            · rw [old jd od d hjd ed hdd'] at hg
              rw [old je oe e hje ee hee'] at hh
              have hlx : listed.getD jd false = true := by
                have : (jd == i) = false := by simpa using ed
                rw [this, Bool.false_or] at hld; exact hld
              have hly : listed.getD je false = true := by
                have : (je == i) = false := by simpa using ee
                rw [this, Bool.false_or] at hle; exact hle
              refine hA d hd e he hde ?_ ?_ g h hg hh
              · refine List.any_eq_true.2 ⟨jd, List.mem_range.2 (Array.getElem?_eq_some_iff.1 hjd).1, ?_⟩
                simp [hlx, hjd, hdd']
              · refine List.any_eq_true.2 ⟨je, List.mem_range.2 (Array.getElem?_eq_some_iff.1 hje).1, ?_⟩
                simp [hly, hje, hee']
      · -- the tail begins
        have hbefore := late_done hlate hcl (by simpa using hil) hik hdeps
        have hik' : i = k := by
          rcases Nat.lt_or_ge k i with h | h
          · have := hbefore k h
            rw [hnone k (Nat.le_refl _)] at this
            cases this
          · omega
        subst hik'
        obtain ⟨h1, h2, h3, h4, h5⟩ := hK
        have hall' : ∀ j, j < i → listed.getD j false = true := hbefore
        have hT := hend a w h1 h3 h2 h4 (fun ox hox d hd => by
          obtain ⟨j, hj⟩ := List.mem_iff_getElem?.1 hox
          rw [List.getElem?_take] at hj
          split at hj
          · rename_i hji
            exact h5 j ox d (by simpa using hj) (hall' j hji) hd
          · cases hj) (fun d hd e he hde hdd hee => hA d hd e he hde (by
            obtain ⟨ox, hox, hxd⟩ := List.any_eq_true.1 hdd
            obtain ⟨j, hj⟩ := List.mem_iff_getElem?.1 hox
            rw [List.getElem?_take] at hj
            split at hj
            · rename_i hji
              refine List.any_eq_true.2 ⟨j, List.mem_range.2 (by simp; omega), ?_⟩
              have hj2 : l.toArray[j]? = some ox := by simpa using hj
              rw [hall' j hji, hj2, Option.bind_some, Bool.true_and]; exact hxd
            · cases hj) (by
            obtain ⟨ox, hox, hxd⟩ := List.any_eq_true.1 hee
            obtain ⟨j, hj⟩ := List.mem_iff_getElem?.1 hox
            rw [List.getElem?_take] at hj
            split at hj
            · rename_i hji
              refine List.any_eq_true.2 ⟨j, List.mem_range.2 (by simp; omega), ?_⟩
              have hj2 : l.toArray[j]? = some ox := by simpa using hj
              rw [hall' j hji, hj2, Option.bind_some, Bool.true_and]; exact hxd
            · cases hj))
        have hdrop : l.drop i = o :: l.drop (i + 1) := by
          rw [List.drop_eq_getElem_cons hil]
          congr 1
          exact (List.getElem?_eq_some_iff.1 ho').2
        rw [hdrop] at hT
        have hnext : ∀ a w, wpList P l.toArray Q (l.drop (i + 1)) a w → (listed.setIfInBounds i true).size = l.toArray.size ∧ Closed l.toArray (fun j => (listed.setIfInBounds i true).getD j false) ∧
    (((∀ j, i ≤ j → (listed.setIfInBounds i true).getD j false = false) ∧ Known w0 a0 l.toArray S (listed.setIfInBounds i true) a w ∧ Apart2 Dist a (doneSlots l.toArray (listed.setIfInBounds i true))) ∨
      ∃ m, i < m ∧ m ≤ l.length ∧ (∀ j, (listed.setIfInBounds i true).getD j false = decide (j < m)) ∧ wpList P l.toArray Q (l.drop m) a w) := by
          intro a w h
          refine ⟨hs2, hcl', Or.inr ⟨i + 1, by omega, by omega, fun j => ?_, h⟩⟩
          have := congrFun hls j
          rw [this]
          rcases Nat.lt_trichotomy j i with hj | hj | hj
          · rw [hall' j hj, Bool.or_true]; simp; omega
          · subst hj; simp
          · rw [hnone j (by omega), Bool.or_false]
            have e1 : ¬ j = i := by omega
            have e2 : ¬ j < i + 1 := by omega
            simp [e1, e2]
        unfold wpList at hT
        split at hT
        · rename_i hw
          rw [if_pos hw]
          exact hT.imp (Oper.wp_mono hnext) (fun h => h)
        · rename_i hw
          rw [if_neg hw]
          exact hnext _ _ hT
    · -- in the tail
      have hbefore := late_done hlate hcl (by simpa using hil) (by
        have := hlm i
        rw [h0'] at this
        have : ¬ i < m := by simpa using this.symm
        omega) hdeps
      have him : i = m := by
        have h1 := hlm i
        rw [h0'] at h1
        have h2 : ¬ i < m := by simpa using h1.symm
        rcases Nat.lt_or_ge m i with h | h
        · have h3 := hbefore m h
          rw [hlm m] at h3
          simp at h3
        · omega
      subst him
      have hdrop : l.drop i = o :: l.drop (i + 1) := by
        rw [List.drop_eq_getElem_cons hil]
        congr 1
        exact (List.getElem?_eq_some_iff.1 ho').2
      rw [hdrop] at hT
      have hnext : ∀ a w, wpList P l.toArray Q (l.drop (i + 1)) a w → (listed.setIfInBounds i true).size = l.toArray.size ∧ Closed l.toArray (fun j => (listed.setIfInBounds i true).getD j false) ∧
    (((∀ j, k ≤ j → (listed.setIfInBounds i true).getD j false = false) ∧ Known w0 a0 l.toArray S (listed.setIfInBounds i true) a w ∧ Apart2 Dist a (doneSlots l.toArray (listed.setIfInBounds i true))) ∨
      ∃ m, k < m ∧ m ≤ l.length ∧ (∀ j, (listed.setIfInBounds i true).getD j false = decide (j < m)) ∧ wpList P l.toArray Q (l.drop m) a w) := by
        intro a w h
        refine ⟨hs2, hcl', Or.inr ⟨i + 1, by omega, by omega, fun j => ?_, h⟩⟩
        have := congrFun hls j
        rw [this, hlm j]
        rcases Nat.lt_trichotomy j i with hj | hj | hj
        · have : j < i + 1 := by omega
          simp [hj, this]
        · subst hj; simp
        · have e1 : ¬ j = i := by omega
          have e2 : ¬ j < i + 1 := by omega
          have e3 : ¬ j < i := by omega
          simp [e1, e2, e3]
      unfold wpList at hT
      split at hT
      · rename_i hw
        rw [if_pos hw]
        exact hT.imp (Oper.wp_mono hnext) (fun h => h)
      · rename_i hw
        rw [if_neg hw]
        exact hnext _ _ hT
  · rintro listed a w ⟨hsz, hcl, hR⟩ hr
    have hal := all_listed hf hsz hr
    rcases hR with ⟨hnone, hK, hA⟩ | ⟨m, hkm, hml, hlm, hT⟩
    · obtain ⟨h1, h2, h3, h4, h5⟩ := hK
      have hkl : k = l.length := by
        rcases Nat.lt_or_ge k l.length with h | h
        · have h6 := hal k (by simpa using h)
          rw [hnone k (Nat.le_refl _)] at h6
          cases h6
        · omega
      have hT := hend a w h1 h3 h2 h4 (fun ox hox d hd => by
          obtain ⟨j, hj⟩ := List.mem_iff_getElem?.1 (List.mem_of_mem_take hox)
          have hj' : l.toArray[j]? = some ox := by simpa using hj
          exact h5 j ox d hj' (hal j (Array.getElem?_eq_some_iff.1 hj').1) hd) (fun d hd e he hde hdd hee => hA d hd e he hde (by
            obtain ⟨ox, hox, hxd⟩ := List.any_eq_true.1 hdd
            obtain ⟨j, hj⟩ := List.mem_iff_getElem?.1 (List.mem_of_mem_take hox)
            have hj' : l.toArray[j]? = some ox := by simpa using hj
            refine List.any_eq_true.2 ⟨j, List.mem_range.2 (Array.getElem?_eq_some_iff.1 hj').1, ?_⟩
            rw [hal j (Array.getElem?_eq_some_iff.1 hj').1, hj', Option.bind_some, Bool.true_and]; exact hxd) (by
            obtain ⟨ox, hox, hxd⟩ := List.any_eq_true.1 hee
            obtain ⟨j, hj⟩ := List.mem_iff_getElem?.1 (List.mem_of_mem_take hox)
            have hj' : l.toArray[j]? = some ox := by simpa using hj
            refine List.any_eq_true.2 ⟨j, List.mem_range.2 (Array.getElem?_eq_some_iff.1 hj').1, ?_⟩
            rw [hal j (Array.getElem?_eq_some_iff.1 hj').1, hj', Option.bind_some, Bool.true_and]; exact hxd))
      rw [hkl, List.drop_length] at hT
      exact hT
    · have hml2 : m = l.length := by
        rcases Nat.lt_or_ge m l.length with h | h
        · have h6 := hal m (by simpa using h)
          rw [hlm m] at h6
          simp at h6
        · omega
      rw [hml2, List.drop_length] at hT
      exact hT
  · unfold unlisted
    exact Nat.le_trans List.countP_le_length (by simp)
  · have hfalse : ∀ j, (Array.replicate l.toArray.size false).getD j false = false := by
      intro j
      rw [Array.getD_eq_getD_getElem?]
      by_cases hlt : j < l.toArray.size <;> simp at hlt <;> simp [hlt]
    refine ⟨by simp, fun i hi => ?_, Or.inl ⟨fun j _ => hfalse j, known_start (gr_drew (Below.refl _ _)), ?_⟩⟩
    · simp only [hfalse] at hi; cases hi
    · intro d _ e _ _ hdd
      obtain ⟨j, o, _, h, _⟩ := doneSlots_at hdd
      rw [hfalse] at h
      cases h
/-- Slots with values that are known. -/
def AllAt (a : Act) : List (Nat × Value) → Prop
  | [] => True
  | (d, v) :: r => a.eval (.tmp d) = v ∧ AllAt a r

def putAll : List (Nat × Value) → Act → Act
  | [], a => a
  | (d, v) :: r, a => putAll r (a.put (some d) v)

theorem putAll_eq {a : Act} : ∀ (l : List (Nat × Value)) (b : Act), b.tmps.size = a.tmps.size → b.defers = a.defers → AllAt a l → (∀ d, (∃ v, (d, v) ∈ l) ∨ b.eval (.tmp d) = a.eval (.tmp d)) → putAll l b = a := by
  intro l
  induction l with
  | nil =>
    intro b hs hd _ h
    show b = a
    obtain ⟨tb, db⟩ := b
    obtain ⟨ta, da⟩ := a
    simp only at hs hd
    subst hd
    congr 1
    apply Array.ext hs
    intro i h1 h2
    have := (h i).resolve_left (by rintro ⟨v, hv⟩; cases hv)
    simpa [Act.eval, h1, h2] using this
  | cons x l ih =>
    intro b hs hd hall h
    obtain ⟨d, v⟩ := x
    refine ih _ (by simpa [Act.put] using hs) hd hall.2 (fun e => ?_)
    by_cases hde : d = e
    · subst hde
      refine Or.inr ?_
      by_cases hlt : d < b.tmps.size
      · rw [eval_put_same _ _ _ hlt]; exact hall.1.symm
      · have h1 : b.tmps[d]? = none := Array.getElem?_eq_none (by omega)
        have h2 : a.tmps[d]? = none := Array.getElem?_eq_none (by omega)
        simp [Act.put, Act.eval, h2, hlt]
    · rcases h e with ⟨u, hu⟩ | he
      · rcases List.mem_cons.1 hu with hu | hu
        · cases hu; exact absurd rfl hde
        · exact Or.inl ⟨u, hu⟩
      · exact Or.inr (by rw [eval_put_other _ _ _ _ hde]; exact he)

/-- Behind a region the slots are the old ones but for those that it writes. -/
theorem act_over {a a0 : Act} {ops : Array Oper} (l : List (Nat × Value)) (hs : a.tmps.size = a0.tmps.size) (hd : a.defers = a0.defers)
    (hbase : ∀ d, (ops.all fun o => o.dst != some d) = true → a.eval (.tmp d) = a0.eval (.tmp d))
    (hcov : (ops.all fun o => match o.dst with | some d => (l.map Prod.fst).contains d | none => true) = true) (hv : AllAt a l) : a = putAll l a0 := by
  refine (putAll_eq l a0 hs.symm hd.symm hv (fun d => ?_)).symm
  by_cases h : (ops.all fun o => o.dst != some d) = true
  · exact Or.inr (hbase d h).symm
  · refine Or.inl ?_
    have hx : ∃ o ∈ ops, o.dst = some d := by
      refine Classical.byContradiction fun hn => h ?_
      rw [Array.all_eq_true']
      intro o ho
      have : o.dst ≠ some d := fun e => hn ⟨o, ho, e⟩
      simpa using this
    obtain ⟨o, ho, hod⟩ := hx
    rw [Array.all_eq_true'] at hcov
    have h2 := hcov o ho
    rw [hod] at h2
    have h3 : d ∈ l.map Prod.fst := by simpa using h2
    obtain ⟨⟨d', v⟩, hm, rfl⟩ := List.mem_map.1 h3
    exact ⟨v, hm⟩
end
end Go.Proofs.YthpcbaamkeiffaaGreatDoor
