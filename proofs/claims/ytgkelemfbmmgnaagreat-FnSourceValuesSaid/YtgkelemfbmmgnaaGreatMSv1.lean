/- Some of the texts of this claim, joined in one file: Base, Num. -/
import Derived.Test.YtgkelemfbmmgnaaGreatProg
import Derived.WalkKit
import Derived.WalkLawsBesides
import Derived.WalkSpells
import Derived.Lib.Hide
import Derived.Deep.QuietTactic
import Derived.BigQuiet
import Derived.Deep.RegionWith
import Derived.Deep.RegionHeld3
import Derived.Deep.DeepCutAuto
/- General words for all texts of this seat: what a slice of 64-bit integers reads as ('Sl'), what the call itself owns ('Own'), and how both are kept. No condition. -/
namespace Go.Proofs.YtgkelemfbmmgnaaGreat
open Go.RowKit

def R64 (x : Int) : Prop := -9223372036854775808 ≤ x ∧ x ≤ 9223372036854775807

theorem ret_int {k : IntKind} {a b : Int} (h : a = b) : Ending.returned (.int k a) = .returned (.int k b) := by rw [h]
theorem ret_bool {a b : Bool} (h : a = b) : Ending.returned (.bool a) = .returned (.bool b) := by rw [h]
theorem ret_2int {k : IntKind} {a b c d : Int} (h : a = b) (h' : c = d) : Ending.returned (.tuple #[.int k a, .int k c]) = .returned (.tuple #[.int k b, .int k d]) := by rw [h, h']

theorem bcell {W w1 : World} (hb : Below W.heap.size W w1) : (∀ b o, b < W.heap.size → w1.cell? ⟨b, o, none⟩ = W.cell? ⟨b, o, none⟩) ∧ (∀ b o, b < W.heap.size → w1.frozen? ⟨b, o, none⟩ = W.frozen? ⟨b, o, none⟩) :=
  ⟨fun b o h => hb.cell (p := ⟨b, o, none⟩) h, fun b o h => hb.frozen (p := ⟨b, o, none⟩) h⟩

theorem cell_lt {w : World} {b o : Nat} {v : Value} (h : w.cell? ⟨b, o, none⟩ = some v) : b < w.heap.size := by
  rcases Nat.lt_or_ge b w.heap.size with hl | hl
  · exact hl
  · simp [World.cell?, Array.getElem?_eq_none hl] at h

/-- The slice value v reads, in the world w, as the numbers xs. -/
def Sl (w : World) (v : Value) (xs : List Int) : Prop :=
  ∃ a cap, v = .slice a xs.length cap ∧ xs.length ≤ cap ∧ cap ≤ maxLen ∧ (∀ x ∈ xs, R64 x) ∧ (a = none → cap = 0) ∧
    (xs = [] ∨ ∃ b off, a = some ⟨b, off, none⟩ ∧ ∀ i x, xs[i]? = some x → w.cell? ⟨b, off + i, none⟩ = some (.int .i64 x))

theorem Sl.grown {w w' : World} {v : Value} {xs : List Int} {row : Option Nat} (h : Sl w v xs) (hg : w.grownBy w' row) (hne : xs = [] ∨ v.ownBlock ≠ row) : Sl w' v xs := by
  obtain ⟨a, cap, rfl, h1, h2, h3, h4, h5⟩ := h
  refine ⟨a, cap, rfl, h1, h2, h3, h4, ?_⟩
  rcases h5 with h5 | ⟨b, off, rfl, hc⟩
  · exact .inl h5
  · rcases hne with hne | hne
    · exact .inl hne
    · refine .inr ⟨b, off, rfl, fun i x hx => ?_⟩
      have hb := cell_lt (hc i x hx)
      have := hg.block b hb (by simpa [Value.ownBlock] using hne)
      rw [← hc i x hx]
      exact World.cell?_of_block (w := w) this

theorem Sl.below {w w' : World} {v : Value} {xs : List Int} (h : Sl w v xs) (hb : Below w.heap.size w w') : Sl w' v xs := by
  obtain ⟨a, cap, rfl, h1, h2, h3, h4, h5⟩ := h
  refine ⟨a, cap, rfl, h1, h2, h3, h4, ?_⟩
  rcases h5 with h5 | ⟨b, off, rfl, hc⟩
  · exact .inl h5
  · exact .inr ⟨b, off, rfl, fun i x hx => (hb.cell (p := ⟨b, off + i, none⟩) (cell_lt (hc i x hx))).trans (hc i x hx)⟩

theorem Sl.alloc {w : World} {v : Value} {xs : List Int} (h : Sl w v xs) (o : Obj) : Sl (w.alloc o) v xs := h.below ((Below.refl _ _).alloc (Nat.le_refl _) o)
theorem Sl.drew {w : World} {v : Value} {xs : List Int} (h : Sl w v xs) : Sl w.drew v xs := h
theorem Sl.nil (w : World) : Sl w (.slice none 0 0) [] := ⟨none, 0, rfl, Nat.le_refl _, by simp [maxLen], by simp, fun _ => rfl, .inl rfl⟩
theorem Sl.len {w : World} {v : Value} {xs : List Int} (h : Sl w v xs) : xs.length ≤ 9223372036854775807 := by
  obtain ⟨a, cap, rfl, h1, h2, _⟩ := h; unfold maxLen at h2; omega
theorem Sl.rng {w : World} {v : Value} {xs : List Int} (h : Sl w v xs) : ∀ x ∈ xs, R64 x := by
  obtain ⟨a, cap, rfl, h1, h2, h3, _⟩ := h; exact h3

/-- What the call owns, from block B on: the slice value v, whose numbers are xs. -/
def Own (w : World) (B : Nat) (v : Value) (xs : List Int) : Prop :=
  w.ownsRow B 2 1 v xs.length (xs.map (Value.int .i64)) ∧ ∀ x ∈ xs, R64 x

theorem Own.nil (w : World) (B : Nat) : Own w B (.slice none 0 0) [] := ⟨World.ownsRow_nil _ _ _ _, by simp⟩
theorem Own.mono {w : World} {B B' : Nat} {v : Value} {xs : List Int} (h : Own w B v xs) (hB : B' ≤ B) : Own w B' v xs := by
  obtain ⟨⟨h1, h2⟩, h3⟩ := h
  refine ⟨⟨h1, ?_⟩, h3⟩
  rcases h2 with h2 | ⟨g, cap, cur, hv, hg, r⟩
  · exact .inl h2
  · exact .inr ⟨g, cap, cur, hv, Nat.le_trans hB hg, r⟩

theorem Own.sl {w : World} {B : Nat} {v : Value} {xs : List Int} (h : Own w B v xs) : Sl w v xs := by
  obtain ⟨hown, h3⟩ := h
  rcases hown.2 with ⟨rfl, h2⟩ | ⟨g, cap, cur, rfl, hg, hh, hn, hm, hs, ht⟩
  · obtain rfl := List.eq_nil_of_length_eq_zero h2
    exact Sl.nil w
  · refine ⟨_, cap, rfl, hn, hm, h3, by simp, .inr ⟨g, 0, rfl, fun i x hx => ?_⟩⟩
    have hi : i < xs.length := (List.getElem?_eq_some_iff.1 hx).1
    rw [Nat.zero_add, hown.cellAt i (by omega)]
    simp [hx]

/-- The block of an owned slice: from B on, and there. -/
theorem Own.lt {w : World} {B : Nat} {v : Value} {xs : List Int} (h : Own w B v xs) : ∀ k, v.ownBlock = some k → B ≤ k ∧ k < w.heap.size := h.1.lt

theorem Own.grown {w w' : World} {B : Nat} {v : Value} {xs : List Int} {row : Option Nat} (h : Own w B v xs) (hg : w.grownBy w' row) (hne : v.ownBlock = none ∨ v.ownBlock ≠ row) : Own w' B v xs :=
  ⟨h.1.kept hg hne, h.2⟩
theorem grown_of_below {w w' : World} (hb : Below w.heap.size w w') (row : Option Nat) : w.grownBy w' row := ⟨hb.os, hb.tape, hb.output, hb.size, fun k hk _ => hb.block k hk⟩
theorem below_of_grown {w w' : World} (hb : w.grownBy w' none) : Below w.heap.size w w' := ⟨hb.os, hb.tape, hb.output, hb.size, fun k hk => hb.block k hk (by simp)⟩
theorem Own.below {w w' : World} {B : Nat} {v : Value} {xs : List Int} (h : Own w B v xs) (hb : Below w.heap.size w w') : Own w' B v xs := by
  refine h.grown (grown_of_below hb none) ?_
  cases v.ownBlock <;> simp
theorem Own.alloc {w : World} {B : Nat} {v : Value} {xs : List Int} (h : Own w B v xs) (o : Obj) : Own (w.alloc o) B v xs := h.below ((Below.refl _ _).alloc (Nat.le_refl _) o)
theorem Own.drew {w : World} {B : Nat} {v : Value} {xs : List Int} (h : Own w B v xs) : Own w.drew B v xs := h

/-- Behind a call the caller's own 'Below': its world at the call, W, lies above w. -/
theorem Below.call {B : Nat} {w W w' : World} (h : Below B w W) (h' : Below W.heap.size W w') (hB : B ≤ W.heap.size) : Below B w w' := h.trans (h'.mono hB)

/-! Below the heap of the start: no side condition. -/
abbrev Bl (w w' : World) : Prop := Below w.heap.size w w'
theorem bl_refl (w : World) : Bl w w := Below.refl _ _
theorem bl_alloc {w w' : World} (h : Bl w w') (o : Obj) : Bl w (w'.alloc o) := h.alloc h.size o
theorem bl_drew {w w' : World} (h : Bl w w') : Bl w w'.drew := h.drew
theorem bl_call {w W w' : World} (h : Bl w W) (h' : Bl W w') : Bl w w' := h.trans (h'.mono h.size)
theorem bl_set {w w' : World} (h : Bl w w') {p : Addr} (hp : w.heap.size ≤ p.block) (u : Value) : Bl w (w'.setCell p u) := h.setCell hp u

/-- A block of the call's own, known whole: its cells; none is frozen. -/
def Bx (w : World) (b : Nat) (cs : Array Value) : Prop := ∃ t, w.heap[b]? = some (.cells cs t (0, 0))
theorem Bx.out {w : World} {b : Nat} {cs : Array Value} (h : Bx w b cs) : (∀ o, w.cell? ⟨b, o, none⟩ = cs[o]?) ∧ (∀ o, w.frozen? ⟨b, o, none⟩ = false) ∧ b < w.heap.size := by
  obtain ⟨t, h⟩ := h
  exact ⟨fun o => cell_of_row w b o cs t (0, 0) h, fun o => frozen_of_row w b o cs t h, (Array.getElem?_eq_some_iff.1 h).1⟩
theorem Bx.below {w w' : World} {b : Nat} {cs : Array Value} (h : Bx w b cs) (hb : Bl w w') : Bx w' b cs := by
  have hl := h.out.2.2
  obtain ⟨t, h⟩ := h
  exact ⟨t, (hb.block b hl).trans h⟩
theorem Bx.alloc {w : World} {b : Nat} {cs : Array Value} (h : Bx w b cs) (o : Obj) : Bx (w.alloc o) b cs := h.below (bl_alloc (bl_refl _) o)
theorem Bx.drew {w : World} {b : Nat} {cs : Array Value} (h : Bx w b cs) : Bx w.drew b cs := h
theorem Bx.new (w : World) (cs : Array Value) (t : TypeId) {b : Nat} (hb : b = w.heap.size) : Bx (w.alloc (.cells cs t)) b cs := by
  subst hb
  exact ⟨t, heap_alloc_new w _⟩
theorem Bx.set {w : World} {b : Nat} {cs : Array Value} (h : Bx w b cs) (j : Nat) (v : Value) : Bx (w.setCell ⟨b, j, none⟩ v) b (cs.setIfInBounds j v) := by
  obtain ⟨t, h⟩ := h
  exact ⟨t, heap_setCell_same w b j cs t v h⟩
theorem Bx.far {w : World} {b : Nat} {cs : Array Value} (h : Bx w b cs) {p : Addr} (hp : p.block ≠ b) (v : Value) : Bx (w.setCell p v) b cs := by
  obtain ⟨t, h⟩ := h
  exact ⟨t, (Below.heap_setCell w p v b (Ne.symm hp)).trans h⟩

end Go.Proofs.YtgkelemfbmmgnaaGreat

/- The numeric leaves: bounds, absolute values, greatest common divisors, floors, comparisons. Each theorem names its conditions. -/
namespace Go.Proofs.YtgkelemfbmmgnaaGreat
open Go.RowKit
set_option linter.unusedVariables false
set_option linter.unusedSimpArgs false

/-- low ≤ n ≤ high, as a Bool of its own. -/
def inB (n lo hi : Int) : Bool := decide (lo ≤ n) && decide (n ≤ hi)
theorem inB_iff {n lo hi : Int} : inB n lo hi = true ↔ lo ≤ n ∧ n ≤ hi := by simp [inB]
theorem inB_no {n lo hi : Int} (h : ¬ (lo ≤ n ∧ n ≤ hi)) : inB n lo hi = false := by
  cases e : inB n lo hi
  · rfl
  · exact absurd (inB_iff.1 e) h

theorem in_any (n lo hi : Int) (w : World) : Calls Tryz.prog 42 #[.int .i64 n, .int .i64 lo, .int .i64 hi] w fun e w' => e = .returned (.bool (inB n lo hi)) ∧ w = w' := by
  by_cases h1 : lo ≤ n
  · by_cases h2 : n ≤ hi
    · go_enter Tryz.func42, Tryz.ntmps42
      go_wp2
      go_ret
      exact ⟨ret_bool (by simp [inB, h1, h2]), rfl⟩
    · go_enter Tryz.func42, Tryz.ntmps42
      go_wp2
      go_ret
      exact ⟨ret_bool (inB_no (by omega)).symm, rfl⟩
  · go_enter Tryz.func42, Tryz.ntmps42
    go_wp2
    go_ret
    exact ⟨ret_bool (inB_no (by omega)).symm, rfl⟩

theorem within_any (n lo hi : Int) (w : World) : Calls Tryz.prog 38 #[.int .i64 n, .int .i64 lo, .int .i64 hi] w fun e w' => e = .returned (.bool (inB n lo hi)) ∧ w = w' := by
  by_cases h1 : lo ≤ n
  · by_cases h2 : n ≤ hi
    · go_enter Tryz.func38, Tryz.ntmps38
      go_wp2
      go_ret
      exact ⟨ret_bool (by simp [inB, h1, h2]), rfl⟩
    · go_enter Tryz.func38, Tryz.ntmps38
      go_wp2
      go_ret
      exact ⟨ret_bool (inB_no (by omega)).symm, rfl⟩
  · go_enter Tryz.func38, Tryz.ntmps38
    go_wp2
    go_ret
    exact ⟨ret_bool (inB_no (by omega)).symm, rfl⟩

/-- The absolute value. -/
def ab (n : Int) : Int := n.natAbs
theorem ab_nonneg (n : Int) : 0 ≤ ab n := by unfold ab; omega
theorem ab_pos {n : Int} (h : 0 ≤ n) : ab n = n := by unfold ab; omega
theorem ab_neg {n : Int} (h : n ≤ 0) : ab n = -n := by unfold ab; omega
theorem ab_le {n m : Int} (h : -m ≤ n ∧ n ≤ m) : ab n ≤ m := by unfold ab; omega

theorem abs_any (n : Int) (w : World) (h : -9223372036854775808 < n) : Calls Tryz.prog 96 #[.int .i64 n] w fun e w' => e = .returned (.int .i64 (ab n)) ∧ w = w' := by
  by_cases c : n < 0
  · by_cases h2 : n ≤ 9223372036854775807
    · go_enter Tryz.func96, Tryz.ntmps96
      go_wp2
      go_ret
      exact ⟨ret_int (ab_neg (by omega)).symm, rfl⟩
    · omega
  · go_enter Tryz.func96, Tryz.ntmps96
    go_wp2
    go_ret
    exact ⟨ret_int (ab_pos (by omega)).symm, rfl⟩

theorem size_any (n : Int) (w : World) (h : -9223372036854775808 < n) : Calls Tryz.prog 70 #[.int .i64 n] w fun e w' => e = .returned (.int .i64 (ab n)) ∧ w = w' := by
  by_cases c : n < 0
  · go_enter Tryz.func70, Tryz.ntmps70
    go_wp2
    go_ret
    exact ⟨ret_int (ab_neg (by omega)).symm, rfl⟩
  · go_enter Tryz.func70, Tryz.ntmps70
    go_wp2
    go_ret
    exact ⟨ret_int (ab_pos (by omega)).symm, rfl⟩

/-- A world that has drawn some answers more. -/
def Drawn (w w' : World) : Prop := ∃ n, w' = w.drewN n
theorem Drawn.refl (w : World) : Drawn w w := ⟨0, rfl⟩
theorem Drawn.below {w w' : World} (h : Drawn w w') (B : Nat) : Below B w w' := by
  obtain ⟨n, rfl⟩ := h
  exact ⟨rfl, rfl, rfl, Nat.le_refl _, fun _ _ => rfl⟩

theorem Drawn.more {w w' : World} (h : Drawn w w') (n : Nat) : Drawn w (w'.drewN n) := by
  obtain ⟨m, rfl⟩ := h
  exact ⟨m + n, World.drewN_drewN _ _ _⟩

/-- The greatest common divisor, as an integer. -/
def gcdI (a b : Int) : Int := (Int.gcd a b : Nat)
theorem gcdI_zero (a : Int) (h : 0 ≤ a) : gcdI a 0 = a := by simp [gcdI]; omega
theorem gcdI_step (p q : Int) (hp : 0 ≤ p) (hq : 0 < q) : gcdI q (p % q) = gcdI p q := by
  obtain ⟨a, rfl⟩ := Int.eq_ofNat_of_zero_le hp
  obtain ⟨b, rfl⟩ := Int.eq_ofNat_of_zero_le (Int.le_of_lt hq)
  have e : ((a : Int) % (b : Int)) = ((a % b : Nat) : Int) := by omega
  rw [e]
  simp only [gcdI, Int.gcd, Int.natAbs_natCast]
  rw [Nat.gcd_comm a b, Nat.gcd_rec b a, Nat.gcd_comm]
theorem gcdI_ab (a b : Int) : gcdI (ab a) (ab b) = gcdI a b := by simp [gcdI, ab, Int.gcd]

set_option maxHeartbeats 400000 in
theorem lgcd_any (a b : Int) (w : World) (h1 : 0 ≤ a) (h2 : 0 ≤ b) (h3 : b ≤ 9223372036854775807) :
    Calls Tryz.prog 69 #[.int .i64 a, .int .i64 b] w fun e w' => e = .returned (.int .i64 (gcdI a b)) ∧ w = w' := by
  go_enter Tryz.func69, Tryz.ntmps69
  go_wp2
  go_loop [0, 1] (fun x y => ∃ p q : Int, 0 ≤ p ∧ 0 ≤ q ∧ q ≤ 9223372036854775807 ∧ x = .int .i64 p ∧ y = .int .i64 q ∧ gcdI p q = gcdI a b) (fun _ y => (intOf y).toNat)
  case atStart => exact ⟨a, b, h1, h2, h3, rfl, rfl, rfl⟩
  case round =>
    obtain ⟨p, q, hp, hq, hq3, rfl, rfl, hg⟩ := hrel
    have HG := Lib.hid hg
    clear hg
    by_cases hq0 : q = 0
    · subst hq0
      go_wp2
      go_ret
      exact ⟨ret_int (by rw [← HG.out, gcdI_zero p hp]), rfl⟩
    · have h0 : (q != 0) = true := by simp [hq0]
      have hm1 := Int.emod_nonneg p hq0
      have hm2 := Int.emod_lt_of_pos p (b := q) (by omega)
      have hq1 : 0 < q := by omega
      clear hq0
      go_wp2
      go_round
      case rel => exact ⟨q, p % q, by omega, by omega, by omega, rfl, rfl, by rw [gcdI_step p q hp hq1]; exact HG.out⟩
      case measure => simp [intOf]; omega

set_option maxHeartbeats 400000 in
theorem gcd_any (a b : Int) (w : World) (ha : -9223372036854775808 < a) (hb : -9223372036854775808 < b) (hb' : b ≤ 9223372036854775807) :
    Calls Tryz.prog 67 #[.int .i64 a, .int .i64 b] w fun e w' => e = .returned (.int .i64 (gcdI a b)) ∧ Drawn w w' := by
  have HA := Lib.hid (gcdI_ab a b)
  have ha0 := ab_nonneg a
  have hb0 := ab_nonneg b
  have hb1 : ab b ≤ 9223372036854775807 := ab_le (by omega)
  go_enter Tryz.func67, Tryz.ntmps67
  go_wp2_with (go_at_call 96; refine (abs_any _ _ (by omega)).mono ?_; rintro e w' ⟨rfl, rfl⟩)
  go_loopw [0, 1] (fun x y wr => ∃ p q : Int, 0 ≤ p ∧ 0 ≤ q ∧ q ≤ 9223372036854775807 ∧ x = .int .i64 p ∧ y = .int .i64 q ∧ gcdI p q = gcdI a b ∧ Drawn w wr) (fun _ y _ => (intOf y).toNat)
  case atStart => exact ⟨ab a, ab b, ha0, hb0, hb1, rfl, rfl, HA.out, Drawn.refl _⟩
  case round =>
    obtain ⟨p, q, hp, hq, hq3, rfl, rfl, hg, n, rfl⟩ := hrel
    have HG := Lib.hid hg
    clear hg
    by_cases hq0 : q = 0
    · subst hq0
      go_wp2
      go_ret
      exact ⟨ret_int (by rw [← HG.out, gcdI_zero p hp]), n, rfl⟩
    · have h0 : (q != 0) = true := by simp [hq0]
      have hm1 := Int.emod_nonneg p hq0
      have hm2 := Int.emod_lt_of_pos p (b := q) (by omega)
      have hq1 : 0 < q := by omega
      clear hq0
      go_wp2
      go_quiet (fail)
      go_wp2
      go_roundw
      case rel => exact ⟨q, p % q, by omega, by omega, by omega, rfl, rfl, by rw [gcdI_step p q hp hq1]; exact HG.out, Drawn.more ⟨n, rfl⟩ _⟩
      case measure => simp [intOf]; omega

/-- The quotient of a negative number, cut towards nought, and its floor. -/
theorem neg_quo (a b : Int) (ha : a < 0) (hb : 0 < b) : (a.tmod b = 0 → a.tdiv b = a / b) ∧ (a.tmod b ≠ 0 → a.tdiv b - 1 = a / b) ∧ a.tmod b ≤ 0 ∧ a ≤ a.tdiv b ∧ a.tdiv b ≤ 0 := by
  have e := Int.mul_tdiv_add_tmod a b
  have e1 : a.tmod b = -((-a).tmod b) := by rw [Int.neg_tmod]; omega
  have e2 : a.tdiv b = -((-a).tdiv b) := by rw [Int.neg_tdiv]; omega
  have m1 := Int.tmod_nonneg b (a := -a) (by omega)
  have m2 := Int.tmod_lt_of_pos (-a) hb
  have d1 := Int.tdiv_nonneg (a := -a) (b := b) (by omega) (by omega)
  have d2 : (-a).tdiv b ≤ -a := by
    rw [Int.tdiv_eq_ediv_of_nonneg (by omega)]
    exact Int.ediv_le_self _ (by omega)
  refine ⟨fun h => ?_, fun h => ?_, by omega, by omega, by omega⟩
  · exact ((Int.ediv_emod_unique (a := a) (b := b) (r := 0) (q := a.tdiv b) hb).2 ⟨by omega, by omega, by omega⟩).1.symm
  · refine ((Int.ediv_emod_unique (a := a) (b := b) (r := a.tmod b + b) (q := a.tdiv b - 1) hb).2 ⟨?_, by omega, by omega⟩).1.symm
    rw [Int.mul_sub]
    omega

set_option maxHeartbeats 400000 in
theorem floor_any (a b : Int) (w : World) (h1 : -9223372036854775808 < a) (h2 : a ≤ 9223372036854775807) (hb : 0 < b) (hb2 : b ≤ 9223372036854775807) :
    Calls Tryz.prog 71 #[.int .i64 a, .int .i64 b] w fun e w' => e = .returned (.int .i64 (a / b)) ∧ w = w' := by
  have hz : (b == 0) = false := by simp; omega
  by_cases c : 0 ≤ a
  · have hm := Int.emod_nonneg a (b := b) (by omega)
    go_enter Tryz.func71, Tryz.ntmps71
    go_wp2
    go_ret
    exact ⟨rfl, rfl⟩
  · obtain ⟨q1, q2, q3, q4, q5⟩ := neg_quo a b (by omega) hb
    by_cases hm : a.tmod b = 0
    · have Q := Lib.hid (q1 hm)
      have hn : ¬ a.tmod b < 0 := by omega
      clear q1 q2 hm
      go_enter Tryz.func71, Tryz.ntmps71
      go_wp2
      go_ret
      exact ⟨ret_int Q.out, rfl⟩
    · have Q := Lib.hid (q2 hm)
      have hn : a.tmod b < 0 := by omega
      clear q1 q2 hm
      go_enter Tryz.func71, Tryz.ntmps71
      go_wp2
      go_ret
      exact ⟨ret_int Q.out, rfl⟩

set_option maxHeartbeats 400000 in
theorem fdiv_any (a b : Int) (w : World) (h1 : -9223372036854775808 < a) (h2 : a ≤ 9223372036854775807) (hb : 0 < b) (hb2 : b ≤ 9223372036854775807) :
    Calls Tryz.prog 68 #[.int .i64 a, .int .i64 b] w fun e w' => e = .returned (.int .i64 (a / b)) ∧ w = w' := by
  have hz : (b == 0) = false := by simp; omega
  have hbn : decide (b < 0) = false := by simp; omega
  by_cases c : 0 ≤ a
  · have hm := Int.emod_nonneg a (b := b) (by omega)
    have han : decide (a < 0) = false := by simp; omega
    by_cases h0 : a % b = 0
    · have h0' : (a % b != 0) = false := by simp [h0]
      clear h0
      go_enter Tryz.func68, Tryz.ntmps68
      go_wp2
      go_ret
      exact ⟨rfl, rfl⟩
    · have h0' : (a % b != 0) = true := by simp [h0]
      clear h0
      go_enter Tryz.func68, Tryz.ntmps68
      go_wp2
      go_ret
      exact ⟨rfl, rfl⟩
  · obtain ⟨q1, q2, q3, q4, q5⟩ := neg_quo a b (by omega) hb
    have han : decide (a < 0) = true := by simp; omega
    by_cases hm : a.tmod b = 0
    · have Q := Lib.hid (q1 hm)
      have h0' : (a.tmod b != 0) = false := by simp [hm]
      clear q1 q2 hm
      go_enter Tryz.func68, Tryz.ntmps68
      go_wp2
      go_ret
      exact ⟨ret_int Q.out, rfl⟩
    · have Q := Lib.hid (q2 hm)
      have h0' : (a.tmod b != 0) = true := by simp [hm]
      clear q1 q2 hm
      go_enter Tryz.func68, Tryz.ntmps68
      go_wp2
      go_ret
      exact ⟨ret_int Q.out, rfl⟩

/-- A plain fraction. -/
def okF (n d : Int) : Bool := inB d 1 1000000000 && inB n (-1000000000) 1000000000 && (gcdI n d == 1)
theorem okF_iff {n d : Int} : okF n d = true ↔ (1 ≤ d ∧ d ≤ 1000000000) ∧ (-1000000000 ≤ n ∧ n ≤ 1000000000) ∧ gcdI n d = 1 := by
  simp [okF, inB_iff, and_assoc]

set_option maxHeartbeats 400000 in
theorem validF_any (n d : Int) (w : World) :
    Calls Tryz.prog 27 #[.agg #[.int .i64 n, .int .i64 d]] w fun e w' => e = .returned (.bool (okF n d)) ∧ Below w.heap.size w w' := by
  cases e1 : inB d 1 1000000000 with
  | false =>
    go_enter Tryz.func27, Tryz.ntmps27
    go_wp2_with (go_at_call 38; refine (within_any _ _ _ _).mono ?_; rintro e w' ⟨rfl, rfl⟩)
    go_ret
    exact ⟨ret_bool (by simp [okF, e1]), (Below.refl _ _).alloc (Nat.le_refl _) _⟩
  | true =>
    cases e2 : inB n (-1000000000) 1000000000 with
    | false =>
      go_enter Tryz.func27, Tryz.ntmps27
      go_wp2_with (go_at_call 38; refine (within_any _ _ _ _).mono ?_; rintro e w' ⟨rfl, rfl⟩)
      go_ret
      exact ⟨ret_bool (by simp [okF, e1, e2]), (Below.refl _ _).alloc (Nat.le_refl _) _⟩
    | true =>
      have hd := inB_iff.1 e1
      have hn := inB_iff.1 e2
      go_enter Tryz.func27, Tryz.ntmps27
      go_wp2_with (first | (go_at_call 38; refine (within_any _ _ _ _).mono ?_; rintro e w' ⟨rfl, rfl⟩) | (go_at_call 67; refine (gcd_any _ _ _ (by omega) (by omega) (by omega)).mono ?_; rintro e w' ⟨rfl, nd, rfl⟩))
      go_ret
      exact ⟨ret_bool (by simp [okF, e1, e2]), ((Below.refl _ _).alloc (Nat.le_refl _) _).trans (Drawn.below ⟨nd, rfl⟩ _)⟩

theorem lsize_any (a : Option Addr) (n c : Nat) (w : World) (hn : n ≤ 9223372036854775807) : Calls Tryz.prog 40 #[.slice a n c] w fun e w' => e = .returned (.int .i64 n) ∧ w = w' := by
  go_enter Tryz.func40, Tryz.ntmps40
  go_wp2
  go_ret
  exact ⟨rfl, rfl⟩

end Go.Proofs.YtgkelemfbmmgnaaGreat

