/- Surds: plain functions. No condition but what each theorem names. -/
import Derived.Test.YtndblondleclpaaGreatDoorAppU
import Derived.Test.YtndblondleclpaaGreatDoorSrcA
namespace Go.Proofs.YtndblondleclpaaGreatDoor
set_option linter.unusedVariables false
set_option linter.unusedSimpArgs false

def rootN : Nat → Nat
  | 0 => 0
  | n + 1 => if (rootN n + 1) * (rootN n + 1) ≤ n + 1 then rootN n + 1 else rootN n
theorem rootN_ok (n : Nat) : rootN n * rootN n ≤ n ∧ n < (rootN n + 1) * (rootN n + 1) := by
  induction n with
  | zero => simp [rootN]
  | succ n ih =>
    rw [rootN]
    generalize rootN n = r at *
    have e1 : (r + 1) * (r + 1) = r * r + 2 * r + 1 := by grind
    have e2 : (r + 1 + 1) * (r + 1 + 1) = r * r + 4 * r + 4 := by grind
    split <;> omega
/-- The root, rounded down. -/
def rootZ (n : Int) : Int := (rootN n.toNat : Nat)
theorem rootZ_ok {n : Int} (h : 0 ≤ n) : 0 ≤ rootZ n ∧ rootZ n * rootZ n ≤ n ∧ n < (rootZ n + 1) * (rootZ n + 1) := by
  have := rootN_ok n.toNat
  unfold rootZ
  generalize rootN n.toNat = r at *
  have e1 : ((r * r : Nat) : Int) = (r : Int) * r := by simp
  have e2 : (((r + 1) * (r + 1) : Nat) : Int) = ((r : Int) + 1) * (r + 1) := by simp
  omega
theorem sq_lt {a b : Int} (ha : 0 ≤ a) (h : a * a < b * b) (hb : 0 ≤ b) : a < b := by
  rcases Int.lt_or_le a b with g | g
  · exact g
  · have := Int.mul_le_mul g g hb ha
    omega
theorem rootZ_eq {n r : Int} (h0 : 0 ≤ r) (h1 : r * r ≤ n) (h2 : n < (r + 1) * (r + 1)) : rootZ n = r := by
  have hn : 0 ≤ n := Int.le_trans (Int.mul_nonneg h0 h0) h1
  obtain ⟨a, b, c⟩ := rootZ_ok hn
  have l1 := sq_lt h0 (Int.lt_of_le_of_lt h1 c) (by omega)
  have l2 := sq_lt a (Int.lt_of_le_of_lt b h2) (by omega)
  omega
theorem rootZ_bd {n M : Int} (h : 0 ≤ n) (hM : 0 ≤ M) (hn : n < M * M) : 0 ≤ rootZ n ∧ rootZ n < M := by
  obtain ⟨a, b, c⟩ := rootZ_ok h
  exact ⟨a, sq_lt a (by omega) hM⟩
def sqrZ (n : Int) : Bool := rootZ n * rootZ n == n
/-- Is a surd plain? -/
def okU (p d q : Int) : Bool := inB d 2 1000000 && inB p (-1000000) 1000000 && inB q (-1000000) 1000000 && (q != 0) && !sqrZ d && ((d - p * p).tmod q == 0)
theorem okU_iff {p d q : Int} : okU p d q = true ↔ (2 ≤ d ∧ d ≤ 1000000) ∧ (-1000000 ≤ p ∧ p ≤ 1000000) ∧ (-1000000 ≤ q ∧ q ≤ 1000000) ∧ q ≠ 0 ∧ sqrZ d = false ∧ (d - p * p).tmod q = 0 := by
  simp [okU, inB_iff, and_assoc]
/-- The floor of a surd. -/
def flU (p d q : Int) : Int := if 0 < q then (p + rootZ d) / q else (-p - rootZ d - 1) / (-q)
/-- The next surd, and whether it is plain. -/
def nxU (p d q a : Int) : Sud × Bool :=
  if inB (a * q - p) (-1000000) 1000000 then ((a * q - p, d, (d - (a * q - p) * (a * q - p)).tdiv q), okU (a * q - p) d ((d - (a * q - p) * (a * q - p)).tdiv q)) else ((0, 0, 0), false)
theorem flU_bd {p d q : Int} (h : okU p d q = true) : -1002001 ≤ flU p d q ∧ flU p d q ≤ 1002001 := by
  obtain ⟨h1, h2, h3, h4, _⟩ := okU_iff.1 h
  have r := rootZ_bd (n := d) (M := 1001) (by omega) (by omega) (by omega)
  unfold flU
  split
  · exact ediv_bd _ _ 1002001 (by omega) (by omega) (by omega)
  · exact ediv_bd _ _ 1002001 (by omega) (by omega) (by omega)
/-- Where a surd stands in a list: the first place from k on. -/
def fiU (s : Sud) : List Sud → Nat → Option Nat
  | [], _ => none
  | x :: xs, k => if x = s then some k else fiU s xs (k + 1)
theorem fiU_none {s : Sud} (xs : List Sud) : ∀ k, fiU s xs k = none ↔ s ∉ xs := by
  induction xs with
  | nil => intro k; simp [fiU]
  | cons x xs ih =>
    intro k
    rw [fiU]
    split
    · rename_i e; subst e; simp
    · rename_i e
      rw [ih]
      simp only [List.mem_cons, not_or]
      exact ⟨fun h => ⟨fun q => e q.symm, h⟩, fun h => h.2⟩
theorem fiU_lt {s : Sud} (xs : List Sud) : ∀ k j, fiU s xs k = some j → k ≤ j ∧ j < k + xs.length := by
  induction xs with
  | nil => intro k j h; cases h
  | cons x xs ih =>
    intro k j h
    rw [fiU] at h
    split at h
    · injection h with h; subst h; simp
    · have := ih _ _ h; simp; omega
/-- The walk along the surds: the terms, and where the period begins. -/
def wkU : Nat → List Sud → List Int → Sud → Option (List Int × Nat)
  | 0, _, _, _ => none
  | f + 1, L, T, s =>
    match fiU s L 0 with
    | some k => some (T, k)
    | none =>
      if 400 ≤ L.length then none
      else if (nxU s.1 s.2.1 s.2.2 (flU s.1 s.2.1 s.2.2)).2 then wkU f (L ++ [s]) (T ++ [flU s.1 s.2.1 s.2.2]) (nxU s.1 s.2.1 s.2.2 (flU s.1 s.2.1 s.2.2)).1 else none
def wkF (L : List Sud) (T : List Int) (s : Sud) : Option (List Int × Nat) := wkU (401 - L.length) L T s
theorem wk_met {L : List Sud} {T : List Int} {s : Sud} {k : Nat} (hl : L.length ≤ 400) (h : fiU s L 0 = some k) : wkF L T s = some (T, k) := by
  unfold wkF; rw [show 401 - L.length = (400 - L.length) + 1 by omega, wkU, h]
theorem wk_full {L : List Sud} {T : List Int} {s : Sud} (hl : L.length = 400) (h : fiU s L 0 = none) : wkF L T s = none := by
  unfold wkF; rw [show 401 - L.length = (400 - L.length) + 1 by omega, wkU, h]
  simp only []
  rw [if_pos (by omega)]
theorem wk_bad {L : List Sud} {T : List Int} {p d q : Int} (hl : L.length < 400) (h : fiU (p, d, q) L 0 = none) (hn : (nxU p d q (flU p d q)).2 = false) : wkF L T (p, d, q) = none := by
  unfold wkF; rw [show 401 - L.length = (400 - L.length) + 1 by omega, wkU, h]
  simp only []
  rw [if_neg (by omega), if_neg (by rw [hn]; simp)]
theorem wk_on {L : List Sud} {T : List Int} {p d q : Int} (hl : L.length < 400) (h : fiU (p, d, q) L 0 = none) (hn : (nxU p d q (flU p d q)).2 = true) : wkF L T (p, d, q) = wkF (L ++ [(p, d, q)]) (T ++ [flU p d q]) (nxU p d q (flU p d q)).1 := by
  unfold wkF; rw [show 401 - L.length = (400 - L.length) + 1 by omega, wkU, h]
  simp only []
  rw [if_neg (by omega), if_pos hn]
  simp only [List.length_append, List.length_singleton]
  rw [show 401 - (L.length + 1) = 400 - L.length by omega]
theorem nx_ok {p d q a : Int} (h : (nxU p d q a).2 = true) : okU (nxU p d q a).1.1 (nxU p d q a).1.2.1 (nxU p d q a).1.2.2 = true := by
  unfold nxU at h ⊢
  split at h
  · rename_i e; rw [if_pos e]; exact h
  · cases h
/-- The source of the terms that a walk gives. -/
def srcU (r : List Int × Nat) : Src := ⟨r.1.take r.2, r.1.drop r.2, List.replicate (r.1.length - r.2) 0⟩
/-- The source of a surd, and a code. -/
noncomputable def surdF (p d q : Int) : Src × Int :=
  if okU p d q then (match wkF [] [] (p, d, q) with | none => (⟨[], [], []⟩, 5) | some r => if okSrc (srcU r) then (srcU r, 0) else (⟨[], [], []⟩, 5)) else (⟨[], [], []⟩, 1)

end Go.Proofs.YtndblondleclpaaGreatDoor
