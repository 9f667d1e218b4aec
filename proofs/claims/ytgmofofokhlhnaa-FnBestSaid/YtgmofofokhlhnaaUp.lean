/- BestAbove: the program and the reference give the same. Each theorem names its conditions. -/
import Derived.Test.YtgmofofokhlhnaaUpM
import Derived.Test.YtgmofofokhlhnaaAsk
import Derived.Test.YtgmofofokhlhnaaLawFS
import Derived.Test.YtgmofofokhlhnaaApp
import Derived.Test.YtgmofofokhlhnaaSide18
namespace Go.Proofs.Ytgmofofokhlhnaa
open Go.RowKit
set_option linter.unusedVariables false
set_option linter.unusedSimpArgs false

theorem OwnF.addrR {w : World} {B : Nat} {v : Value} {fs : List (Int × Int)} (h : OwnF w B v fs) (hne : 0 < fs.length) : ∃ g c, v = .slice (some ⟨g, 0, none⟩) fs.length c ∧ B ≤ g ∧ g < w.heap.size ∧ fs.length ≤ c := by
  rcases h.2 with ⟨_, h2⟩ | ⟨g, cap, cur, rfl, hg, hh, hn, hm, hs, ht⟩
  · omega
  · exact ⟨g, cap, rfl, hg, (Array.getElem?_eq_some_iff.1 hh).1, hn⟩
theorem OwnF.drewN {w : World} {B : Nat} {v : Value} {fs : List (Int × Int)} (h : OwnF w B v fs) (n : Nat) : OwnF (w.drewN n) B v fs := h
theorem Bx.drewN {w : World} {b : Nat} {cs : Array Value} (h : Bx w b cs) (n : Nat) : Bx (w.drewN n) b cs := h
theorem bl_drewN {w w' : World} (h : Bl w w') (n : Nat) : Bl w (w'.drewN n) := h.trans (Drawn.below ⟨n, rfl⟩ _)
theorem OwnF.atR {w : World} {B g n c i : Nat} {fs : List (Int × Int)} {x y : Int} (h : OwnF w B (.slice (some ⟨g, 0, none⟩) n c) fs) (hx : fs[i]? = some (x, y)) : w.cell? ⟨g, i * 2, none⟩ = some (.int .i64 x) ∧ w.cell? ⟨g, i * 2 + 1, none⟩ = some (.int .i64 y) := by
  have := h.slF.atR (bl_refl w) hx
  rwa [Nat.zero_add] at this
theorem ret_li {x : Int} {r : List (Int × Int) × Int} {a : Option Addr} {k c : Nat} (h : x = r.2) : Ending.returned (.tuple #[.slice a k c, .int .i64 x]) = .returned (.tuple #[.slice a k c, .int .i64 r.2]) := by rw [h]
/-- The fractions that are nearer from above than all with lesser denominators, and a code. -/
def upF (n d m : Int) : List (Int × Int) × Int := if askC n d m 10000 = 0 then (upL n d (min m d).toNat, 0) else ([], askC n d m 10000)
theorem upF_no {n d m : Int} (h : ¬ askC n d m 10000 = 0) : upF n d m = ([], askC n d m 10000) := by rw [upF, if_neg h]
theorem upF_yes {n d m : Int} (h : askC n d m 10000 = 0) : upF n d m = (upL n d (min m d).toNat, 0) := by rw [upF, if_pos h]
theorem upF_len (n d m : Int) : (upF n d m).1.length ≤ 1048576 := by
  by_cases h : askC n d m 10000 = 0
  · rw [upF_yes h]
    have h1 := (upL_last n d (min m d).toNat).1
    have h2 := askC_zero h
    show (upL n d (min m d).toNat).length ≤ _
    omega
  · rw [upF_no h]; simp
theorem up_next {n d : Int} {q : Nat} {fs gs : List (Int × Int)} (hq : 1 ≤ q) (h : fs = upL n d (q - 1)) (hs : upStep n d q fs = gs) : gs = upL n d q := by
  obtain ⟨k, rfl⟩ : ∃ k, q = k + 1 := ⟨q - 1, by omega⟩
  rw [upL, ← hs, h]
  rfl
theorem up_at {n d : Int} {q : Nat} {fs : List (Int × Int)} (hq : 2 ≤ q) (h : fs = upL n d (q - 1)) : 1 ≤ fs.length ∧ ∃ a t, fs[fs.length - 1]? = some (a, t) ∧ UpI n d (q - 1) a t := by
  subst h
  exact (upL_last n d (q - 1)).2 (by omega)
theorem mul_bd17 {x t : Int} (hx : -10000000000000 ≤ x ∧ x ≤ 10000000000000) (ht : 0 ≤ t ∧ t ≤ 10000) : -100000000000000000 ≤ x * t ∧ x * t ≤ 100000000000000000 := by
  have a1 := Int.mul_le_mul_of_nonneg_right hx.1 ht.1
  have a2 := Int.mul_le_mul_of_nonneg_right hx.2 ht.1
  omega
/-- The sign of a difference. -/
def sgnV (x y : Int) : Int := if x < y then -1 else if y < x then 1 else 0
theorem sign_v {n d m e c : Int} (hc : sgnV (n * e) (m * d) = c) (w : World) (h1 : -4000000000000000000 ≤ n * e) (h2 : n * e ≤ 4000000000000000000) (h3 : -4000000000000000000 ≤ m * d) (h4 : m * d ≤ 4000000000000000000) :
    Calls Try.prog 192 #[.agg #[.int .i64 n, .int .i64 d], .agg #[.int .i64 m, .int .i64 e]] w fun r w' => r = .returned (.int .i64 c) ∧ Bl w w' := by
  subst hc
  unfold sgnV
  by_cases k : n * e < m * d
  · rw [if_pos k]; exact sign_lt n d m e w h1 h2 h3 h4 k
  · rw [if_neg k]
    by_cases k2 : m * d < n * e
    · rw [if_pos k2]; exact sign_gt n d m e w h1 h2 h3 h4 k2
    · rw [if_neg k2]; exact sign_eq n d m e w h1 h2 h3 h4 (by omega)
theorem sgn_lt {x y : Int} (h : x < y) : sgnV x y = -1 := by unfold sgnV; rw [if_pos h]
theorem sgn_ne {x y : Int} (h : ¬ x < y) : ∃ c, sgnV x y = c ∧ (c == -1) = false := by
  unfold sgnV
  rw [if_neg h]
  split <;> exact ⟨_, rfl, by decide⟩
theorem askC_hi {n d m : Int} (h : askC n d m 1000000000 = 0) : askC n d m 10000 = if 10000 < m then 2 else 0 := by
  obtain ⟨h1, h2, h3⟩ := askC_zero h
  unfold askC
  rw [if_pos h1]
  by_cases c : 10000 < m
  · rw [if_pos c, inB_no (by omega)]; simp
  · rw [if_neg c, if_pos (inB_iff.2 ⟨h2, by omega⟩)]
theorem askC_same {n d m : Int} (h : ¬ askC n d m 1000000000 = 0) : askC n d m 10000 = askC n d m 1000000000 := by
  unfold askC at h ⊢
  cases h1 : okF n d with
  | false => rfl
  | true =>
    rw [h1] at h
    cases h2 : inB m 1 1000000000 with
    | true => rw [h2] at h; exact absurd rfl h
    | false =>
      have : inB m 1 10000 = false := by
        cases h3 : inB m 1 10000 with
        | false => rfl
        | true =>
          have := inB_iff.1 h3
          rw [inB_iff.2 (by omega)] at h2
          cases h2
      rw [this]
      try simp
theorem lowF_one {x q : Int} (h : gcdI x q = 1) : lowF x q = (x, q) := by unfold lowF; rw [h, Int.ediv_one, Int.ediv_one]
theorem low_ne {x q : Int} (hq : 1 ≤ q) (h : gcdI x q ≠ 1) : ∃ x' q', lowF x q = (x', q') ∧ q' ≠ q ∧ ∃ g, 1 < g ∧ x = g * x' ∧ q = g * q' := by
  have h0 := gcdI_pos x q (by omega)
  have hx := Int.mul_ediv_cancel' (gcdI_dvd_left x q)
  have hy := Int.mul_ediv_cancel' (gcdI_dvd_right x q)
  refine ⟨_, _, rfl, fun e => ?_, gcdI x q, by omega, hx.symm, hy.symm⟩
  rw [e] at hy
  have : q * 2 ≤ q * gcdI x q := Int.mul_le_mul_of_nonneg_left (by omega) (by omega)
  rw [Int.mul_comm q (gcdI x q)] at this
  omega
theorem up_skip {n d y q' x' g : Int} {q : Nat} {fs : List (Int × Int)} (hd : 0 < d) (hq : 1 ≤ q) (h : fs = upL n d (q - 1)) (hcy : ceilD n d q = -y) (hg : 1 < g) (hx : -y = g * x') (hq' : (q : Int) = g * q') : fs = upL n d q := by
  obtain ⟨k, rfl⟩ : ∃ k, q = k + 1 := ⟨q - 1, by omega⟩
  have hk : 1 ≤ k := by
    rcases Nat.eq_zero_or_pos k with rfl | c
    · have h1 : g ∣ (1 : Int) := ⟨q', by simpa using hq'⟩
      have := Int.le_of_dvd (by omega) h1
      omega
    · exact c
  obtain ⟨h1, a, t, h2, h3⟩ := up_at (n := n) (d := d) (q := k + 1) (fs := fs) (by omega) h
  have := up_low hd h3 hg (by rw [show k + 1 - 1 + 1 = k + 1 by omega, hcy]; exact hx) (by rw [show k + 1 - 1 + 1 = k + 1 by omega]; exact hq')
  rw [show k + 1 - 1 + 1 = k + 1 by omega] at this
  exact up_next hq h (upStep_no h2 this)
theorem mk_min {m d : Int} (h : m ≤ d) : min m d = m := by omega
theorem mk_min' {m d : Int} (h : ¬ m ≤ d) : min m d = d := by omega

end Go.Proofs.Ytgmofofokhlhnaa
