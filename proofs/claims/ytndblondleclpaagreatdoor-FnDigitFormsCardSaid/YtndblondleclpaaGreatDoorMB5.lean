/- Some of the texts of this claim, joined in one file: PerM, Digs, Dof, Per, FrDig. -/
import Derived.Test.YtndblondleclpaaGreatDoorApp
import Derived.Test.YtndblondleclpaaGreatDoorMB2
import Derived.Test.YtndblondleclpaaGreatDoorOk
import Derived.Maps.RangeWalk
import Derived.OpenShut
import Derived.Test.YtndblondleclpaaGreatDoorFrac2
/- The period of digits: plain numbers. No condition but what each theorem names. -/
namespace Go.Proofs.YtndblondleclpaaGreatDoor
theorem pigeon (m : Nat) : ∀ (k : Nat) (f : Nat → Nat), (∀ i, i < k → f i < m) → (∀ i j, i < j → j < k → f i ≠ f j) → k ≤ m := by
  induction m with
  | zero =>
    intro k f h _
    rcases Nat.eq_zero_or_pos k with rfl | hk
    · exact Nat.le_refl _
    · have := h 0 hk; omega
  | succ m ih =>
    intro k f h hd
    rcases Nat.eq_zero_or_pos k with rfl | hk
    · omega
    · -- swap: value m is taken by at most one index; move the last index there
      have : k - 1 ≤ m := by
        refine ih (k - 1) (fun i => if f i = m then f (k - 1) else f i) ?_ ?_
        · intro i hi
          have h1 := h i (by omega)
          have h2 := h (k - 1) (by omega)
          have h3 := hd i (k - 1) (by omega) (by omega)
          split <;> omega
        · intro i j hij hj
          have h1 := hd i j hij (by omega)
          have h3 := hd i (k - 1) (by omega) (by omega)
          have h4 := hd j (k - 1) (by omega) (by omega)
          split <;> split <;> omega
      omega

theorem dvd_mul_div_gcd {d x b : Nat} (hd : 0 < d) : d ∣ x * b ↔ d / d.gcd b ∣ x := by
  have hg : 0 < d.gcd b := Nat.gcd_pos_of_pos_left _ hd
  have e1 : d = d.gcd b * (d / d.gcd b) := (Nat.mul_div_cancel' (Nat.gcd_dvd_left d b)).symm
  have e2 : b = d.gcd b * (b / d.gcd b) := (Nat.mul_div_cancel' (Nat.gcd_dvd_right d b)).symm
  have hc : Nat.Coprime (d / d.gcd b) (b / d.gcd b) := Nat.coprime_div_gcd_div_gcd hg
  constructor
  · intro h
    have h2 : d.gcd b * (d / d.gcd b) ∣ d.gcd b * (x * (b / d.gcd b)) := by
      rw [← e1, Nat.mul_left_comm, ← e2]; exact h
    exact hc.dvd_of_dvd_mul_right (Nat.dvd_of_mul_dvd_mul_left hg h2)
  · intro h
    obtain ⟨y, rfl⟩ := h
    have h2 : d.gcd b * (d / d.gcd b) ∣ d.gcd b * (d / d.gcd b) * (y * (b / d.gcd b)) := Nat.dvd_mul_right _ _
    rw [← e1] at h2
    have e3 : d / d.gcd b * y * b = d * (y * (b / d.gcd b)) := by
      have q : d / d.gcd b * y * b = d / d.gcd b * y * (d.gcd b * (b / d.gcd b)) := by rw [← e2]
      rw [q]
      have q2 : d * (y * (b / d.gcd b)) = d.gcd b * (d / d.gcd b) * (y * (b / d.gcd b)) := by rw [← e1]
      rw [q2]
      ac_rfl
    rw [e3]
    exact Nat.dvd_mul_right _ _

/-- Behind k rounds of the reference: what divides. -/
def Red (d b k e : Nat) : Prop := 0 < e ∧ (∀ x, d ∣ x * b ^ k ↔ e ∣ x) ∧ ∀ j, j < k → ∃ f, 1 < f.gcd b ∧ ∀ x, d ∣ x * b ^ j ↔ f ∣ x
theorem Red.start (d b : Nat) (hd : 0 < d) : Red d b 0 d := ⟨hd, fun x => by simp, fun j h => absurd h (by omega)⟩
theorem Red.step {d b k e : Nat} (h : Red d b k e) (hg : 1 < e.gcd b) : Red d b (k + 1) (e / e.gcd b) := by
  obtain ⟨h0, h1, h2⟩ := h
  refine ⟨Nat.div_pos (Nat.le_of_dvd h0 (Nat.gcd_dvd_left _ _)) (by omega), fun x => ?_, fun j hj => ?_⟩
  · rw [Nat.pow_succ, Nat.mul_comm (b ^ k), ← Nat.mul_assoc, h1, dvd_mul_div_gcd h0]
  · by_cases c : j < k
    · exact h2 j c
    · obtain rfl : j = k := by omega
      exact ⟨e, hg, h1⟩

/-- The answer: no digits repeat, or p of them behind s others. Powers less 1 are spelled by an equation of rests. -/
def Per (d b s p : Nat) : Prop :=
  (p = 0 ∧ d ∣ b ^ s ∧ ∀ j, j < s → ¬ d ∣ b ^ j) ∨
  (1 ≤ p ∧ (∀ j, ¬ d ∣ b ^ j) ∧ b ^ (s + p) % d = b ^ s % d ∧ ∀ i j, i < j → j < s + p → b ^ j % d ≠ b ^ i % d)

theorem mod_eq_iff {d b i j : Nat} (h : i ≤ j) (hb : 0 < b) : b ^ j % d = b ^ i % d ↔ d ∣ (b ^ (j - i) - 1) * b ^ i := by
  have e : (b ^ (j - i) - 1) * b ^ i = b ^ j - b ^ i := by
    rw [Nat.sub_mul, ← Nat.pow_add, Nat.one_mul]
    congr 2; omega
  rw [e]
  have hle : b ^ i ≤ b ^ j := Nat.pow_le_pow_right hb h
  constructor
  · intro q
    exact Nat.dvd_of_mod_eq_zero (Nat.sub_mod_eq_zero_of_mod_eq q)
  · rintro ⟨c, q⟩
    rw [show b ^ j = b ^ i + d * c by omega, Nat.add_mul_mod_self_left]

/-- The reference's second loop: d' is prime to the base; p is the first power that is 1 again. -/
theorem per_zero {d b k : Nat} (h : Red d b k 1) : Per d b k 0 := by
  obtain ⟨_, h1, h2⟩ := h
  refine .inl ⟨rfl, ?_, fun j hj hd => ?_⟩
  · have := (h1 1).2 (Nat.dvd_refl 1); rwa [Nat.one_mul] at this
  · obtain ⟨f, hf, h3⟩ := h2 j hj
    have := (h3 1).1 (by rwa [Nat.one_mul])
    obtain rfl := Nat.dvd_one.1 this
    simp at hf
theorem per_ord {d b k e p : Nat} (h : Red d b k e) (hb : 2 ≤ b) (he : 1 < e) (hg : e.gcd b = 1) (hp : 1 ≤ p) (h1 : b ^ p % e = 1) (hm : ∀ j, 1 ≤ j → j < p → b ^ j % e ≠ 1) : Per d b k p := by
  obtain ⟨h0, ha, hl⟩ := h
  have key : ∀ j, 1 ≤ j → (e ∣ b ^ j - 1 ↔ b ^ j % e = 1) := by
    intro j hj
    have hpos : 1 ≤ b ^ j := Nat.one_le_pow _ _ (by omega)
    constructor
    · rintro ⟨c, q⟩
      rw [show b ^ j = 1 + e * c by omega, Nat.add_mul_mod_self_left, Nat.mod_eq_of_lt he]
    · intro q
      have := Nat.mod_add_div (b ^ j) e
      rw [q] at this
      exact ⟨b ^ j / e, by omega⟩
  have cop : ∀ j x, e ∣ x * b ^ j ↔ e ∣ x := by
    intro j x
    have c : Nat.Coprime e (b ^ j) := Nat.Coprime.pow_right _ hg
    exact ⟨fun q => c.dvd_of_dvd_mul_right q, fun q => Nat.dvd_mul_right_of_dvd q _⟩
  have ge : ∀ j x, k ≤ j → (d ∣ x * b ^ j ↔ e ∣ x) := by
    intro j x hj
    rw [show b ^ j = b ^ (j - k) * b ^ k by rw [← Nat.pow_add]; congr 1; omega, ← Nat.mul_assoc, ha, cop]
  refine .inr ⟨hp, fun j hd => ?_, ?_, fun i j hij hj q => ?_⟩
  · rcases Nat.lt_or_ge j k with hj | hj
    · obtain ⟨f, hf, h3⟩ := hl j hj
      have := (h3 1).1 (by rwa [Nat.one_mul])
      obtain rfl := Nat.dvd_one.1 this
      simp at hf
    · have := (ge j 1 hj).1 (by rwa [Nat.one_mul])
      have := Nat.dvd_one.1 this
      omega
  · rw [mod_eq_iff (by omega) (by omega), ge _ _ (Nat.le_refl _), show k + p - k = p by omega, key p hp]
    exact h1
  · rw [mod_eq_iff (by omega) (by omega)] at q
    rcases Nat.lt_or_ge i k with hi | hi
    · obtain ⟨f, hf, h3⟩ := hl i hi
      have q2 := (h3 _).1 q
      have g1 : f.gcd b ∣ b ^ (j - i) - 1 := Nat.dvd_trans (Nat.gcd_dvd_left _ _) q2
      have g2 : f.gcd b ∣ b ^ (j - i) := Nat.dvd_trans (Nat.gcd_dvd_right _ _) (by rw [show j - i = (j - i - 1) + 1 by omega, Nat.pow_succ]; exact Nat.dvd_mul_left _ _)
      have hpos : 1 ≤ b ^ (j - i) := Nat.one_le_pow _ _ (by omega)
      have g3 : f.gcd b ∣ 1 := by
        have := Nat.dvd_sub g2 g1
        rwa [show b ^ (j - i) - (b ^ (j - i) - 1) = 1 by omega] at this
      have := Nat.dvd_one.1 g3
      omega
    · have q2 := (ge _ _ hi).1 q
      exact hm (j - i) (by omega) (by omega) ((key _ (by omega)).1 q2)

/-- The powers of a number prime to e come back to 1 within e - 1 steps. -/
theorem ord_ex {b e : Nat} (he : 1 < e) (hb : 2 ≤ b) (hg : e.gcd b = 1) : ∃ p, 1 ≤ p ∧ p ≤ e ∧ b ^ p % e = 1 := by
  have hx : ∃ i j, i < j ∧ j < e + 1 ∧ b ^ i % e = b ^ j % e := by
    refine Classical.byContradiction fun hn => ?_
    have := pigeon e (e + 1) (fun i => b ^ i % e) (fun i _ => Nat.mod_lt _ (by omega)) (fun i j h1 h2 h3 => hn ⟨i, j, h1, h2, h3⟩)
    omega
  obtain ⟨i, j, hij, hj, q⟩ := hx
  refine ⟨j - i, by omega, by omega, ?_⟩
  have q2 := (mod_eq_iff (d := e) (i := i) (j := j) (by omega) (by omega)).1 q.symm
  have c : Nat.Coprime e (b ^ i) := Nat.Coprime.pow_right _ hg
  obtain ⟨m, q3⟩ := c.dvd_of_dvd_mul_right q2
  have hpos : 1 ≤ b ^ (j - i) := Nat.one_le_pow _ _ (by omega)
  rw [show b ^ (j - i) = 1 + e * m by omega, Nat.add_mul_mod_self_left, Nat.mod_eq_of_lt he]

/-- The program's two endings fit the reference's answer. -/
theorem per_end0 {d b s p k : Nat} (h : Per d b s p) (h0 : d ∣ b ^ k) (hn : ∀ j, j < k → ¬ d ∣ b ^ j) : s = k ∧ p = 0 := by
  rcases h with ⟨rfl, h1, h2⟩ | ⟨_, h1, _⟩
  · refine ⟨?_, rfl⟩
    rcases Nat.lt_trichotomy s k with c | c | c
    · exact absurd h1 (hn s c)
    · exact c
    · exact absurd h0 (h2 k c)
  · exact absurd h0 (h1 k)
theorem per_end1 {d b s p k a : Nat} (h : Per d b s p) (hb : 2 ≤ b) (ha : a < k) (h0 : b ^ k % d = b ^ a % d) (hd : ∀ i j, i < j → j < k → b ^ j % d ≠ b ^ i % d) (hn : ∀ j, j < k → ¬ d ∣ b ^ j) : s = a ∧ p = k - a := by
  rcases h with ⟨rfl, h1, h2⟩ | ⟨hp, h1, h2, h3⟩
  · exfalso
    have hs : k ≤ s := by
      rcases Nat.lt_or_ge s k with c | c
      · exact absurd h1 (hn s c)
      · exact c
    have e : d ∣ (b ^ (k - a) - 1) * b ^ a := (mod_eq_iff (by omega) (by omega)).1 h0
    have e2 : d ∣ (b ^ (k - a) - 1) * b ^ (s - (k - a)) := by
      rw [show b ^ (s - (k - a)) = b ^ a * b ^ (s - k) by rw [← Nat.pow_add]; congr 1; omega, ← Nat.mul_assoc]
      exact Nat.dvd_mul_right_of_dvd e _
    have e3 := (mod_eq_iff (d := d) (i := s - (k - a)) (j := s) (by omega) (by omega : 0 < b)).2 (by rw [show s - (s - (k - a)) = k - a by omega]; exact e2)
    rw [Nat.mod_eq_zero_of_dvd h1] at e3
    exact h2 (s - (k - a)) (by omega) (Nat.dvd_of_mod_eq_zero e3.symm)
  · have hk : s + p = k := by
      rcases Nat.lt_trichotomy (s + p) k with c | c | c
      · exact absurd h2 (hd s (s + p) (by omega) c)
      · exact c
      · exact absurd h0 (h3 a k ha c)
    have : s = a := by
      rcases Nat.lt_trichotomy s a with c | c | c
      · exact absurd (by rw [← h0, ← hk, h2]) (hd s a c (by omega))
      · exact c
      · exact absurd (by rw [← h2, hk, h0]) (hd a s c (by omega))
    omega

/-- The rests of n over d: n is prime to d, so they come back just where the powers do. -/
theorem rest_eq {n d b i j : Nat} (hg : n.gcd d = 1) (hb : 2 ≤ b) (h : i ≤ j) : n * b ^ j % d = n * b ^ i % d ↔ b ^ j % d = b ^ i % d := by
  constructor
  · intro q
    rw [mod_eq_iff h (by omega)]
    have hle : n * b ^ i ≤ n * b ^ j := Nat.mul_le_mul_left _ (Nat.pow_le_pow_right (by omega) h)
    have q2 := Nat.dvd_of_mod_eq_zero (Nat.sub_mod_eq_zero_of_mod_eq q)
    have e : n * b ^ j - n * b ^ i = n * ((b ^ (j - i) - 1) * b ^ i) := by
      rw [← Nat.mul_sub, Nat.sub_mul, ← Nat.pow_add, Nat.one_mul]
      congr 3; omega
    rw [e] at q2
    have c : Nat.Coprime d n := by rw [Nat.Coprime, Nat.gcd_comm]; exact hg
    exact c.dvd_of_dvd_mul_left q2
  · intro q
    rw [Nat.mul_mod, q, ← Nat.mul_mod]
theorem rest_zero {n d b j : Nat} (hg : n.gcd d = 1) : n * b ^ j % d = 0 ↔ d ∣ b ^ j := by
  have c : Nat.Coprime d n := by rw [Nat.Coprime, Nat.gcd_comm]; exact hg
  constructor
  · intro q
    exact c.dvd_of_dvd_mul_left (Nat.dvd_of_mod_eq_zero q)
  · intro q
    exact Nat.mod_eq_zero_of_dvd (Nat.dvd_mul_left_of_dvd q _)

theorem red_ex {b : Nat} (d : Nat) : ∀ m k e, e ≤ m → Red d b k e → ∃ k' e', Red d b k' e' ∧ e'.gcd b = 1 := by
  intro m
  induction m with
  | zero => intro k e he h; have := h.1; omega
  | succ m ih =>
    intro k e he h
    have hp : 0 < e.gcd b := Nat.gcd_pos_of_pos_left _ h.1
    by_cases hg : e.gcd b = 1
    · exact ⟨k, e, h, hg⟩
    · exact ih (k + 1) (e / e.gcd b) (by have := Nat.div_lt_self h.1 (show 1 < e.gcd b by omega); omega) (h.step (by omega))
theorem least_ex {P : Nat → Prop} : ∀ m, P m → ∃ p, p ≤ m ∧ P p ∧ ∀ j, j < p → ¬ P j := by
  intro m
  induction m using Nat.strongRecOn with
  | ind m ih =>
    intro h
    by_cases hx : ∃ j, j < m ∧ P j
    · obtain ⟨j, hj, hp⟩ := hx
      obtain ⟨p, h1, h2, h3⟩ := ih j hj hp
      exact ⟨p, by omega, h2, h3⟩
    · exact ⟨m, Nat.le_refl _, h, fun j hj hp => hx ⟨j, hj, hp⟩⟩
theorem per_ex {d b : Nat} (hd : 0 < d) (hb : 2 ≤ b) : ∃ x : Nat × Nat, Per d b x.1 x.2 := by
  obtain ⟨k, e, h, hg⟩ := red_ex (b := b) d d 0 d (Nat.le_refl _) (Red.start d b hd)
  by_cases he : e = 1
  · subst he; exact ⟨(k, 0), per_zero h⟩
  · have h0 := h.1
    obtain ⟨q, q1, q2, q3⟩ := ord_ex (b := b) (e := e) (by omega) hb hg
    obtain ⟨p, p1, p2, p3⟩ := least_ex (P := fun p => 1 ≤ p ∧ b ^ p % e = 1) q ⟨q1, q3⟩
    exact ⟨(k, p), per_ord h hb (by omega) hg p2.1 p2.2 (fun j j1 j2 j3 => p3 j j2 ⟨j1, j3⟩)⟩
theorem per_one {d b s p s' p' : Nat} (hb : 2 ≤ b) (h : Per d b s p) (h' : Per d b s' p') : (s, p) = (s', p') := by
  rcases h' with ⟨rfl, h1, h2⟩ | ⟨q, h1, h2, h3⟩
  · obtain ⟨rfl, rfl⟩ := per_end0 h h1 h2
    rfl
  · obtain ⟨rfl, rfl⟩ := per_end1 h hb (show s' < s' + p' by omega) h2 h3 (fun j _ => h1 j)
    simp
open Classical in
/-- The digits that do not repeat, and the period. -/
noncomputable def perN (d b : Nat) : Nat × Nat := if h : ∃ x : Nat × Nat, Per d b x.1 x.2 then h.choose else (0, 0)
theorem perN_is {d b : Nat} (hd : 0 < d) (hb : 2 ≤ b) : Per d b (perN d b).1 (perN d b).2 := by
  have h := per_ex (d := d) (b := b) hd hb
  rw [perN, dif_pos h]
  exact h.choose_spec
theorem perN_eq {d b s p : Nat} (hd : 0 < d) (hb : 2 ≤ b) (h : Per d b s p) : perN d b = (s, p) := per_one hb (perN_is hd hb) h

end Go.Proofs.YtndblondleclpaaGreatDoor

/- The first digits of a fraction. Each theorem names its conditions. -/
namespace Go.Proofs.YtndblondleclpaaGreatDoor
open Go.RowKit
set_option linter.unusedVariables false
set_option linter.unusedSimpArgs false

/-- The first n digits of r / d in a base. -/
def digsG (d b : Int) : Nat → Int → List Int
  | 0, _ => []
  | n + 1, r => (r * b / d) :: digsG d b n (r * b % d)
theorem digsG_len (d b : Int) (n : Nat) : ∀ r, (digsG d b n r).length = n := by
  induction n with
  | zero => intro r; rfl
  | succ n ih => intro r; simp [digsG, ih]
theorem digsG_step {d b r : Int} {M : Nat} {xs T : List Int} (hk : xs.length < M) (h : xs ++ digsG d b (M - xs.length) r = T) : (xs ++ [r * b / d]) ++ digsG d b (M - (xs.length + 1)) (r * b % d) = T := by
  rw [show M - xs.length = (M - (xs.length + 1)) + 1 by omega, digsG] at h
  rw [← h]; simp
theorem digsG_end {d b r : Int} {M : Nat} {xs T : List Int} (hk : M ≤ xs.length) (h : xs ++ digsG d b (M - xs.length) r = T) : xs = T := by
  rw [show M - xs.length = 0 by omega, digsG, List.append_nil] at h
  exact h
theorem dig_bd {r b d : Int} (hd : 1 ≤ d ∧ d ≤ 1000000000) (hb : 2 ≤ b ∧ b ≤ 36) (hr : 0 ≤ r ∧ r < d) : 0 ≤ r * b ∧ r * b ≤ 36000000000 ∧ 0 ≤ r * b / d ∧ r * b / d ≤ 36000000000 ∧ 0 ≤ r * b % d ∧ r * b % d < d := by
  have a1 := Int.mul_nonneg hr.1 (show 0 ≤ b by omega)
  have a2 := Int.mul_le_mul (show r ≤ 1000000000 by omega) hb.2 (show 0 ≤ b by omega) (by omega)
  have a3 := Int.ediv_nonneg a1 (show 0 ≤ d by omega)
  have a4 := Int.ediv_le_self d a1
  exact ⟨a1, by omega, a3, by omega, Int.emod_nonneg _ (by omega), Int.emod_lt_of_pos _ (by omega)⟩

set_option maxRecDepth 100000 in
set_option maxHeartbeats 3200000 in
theorem fdigs_any (n d b : Int) (M : Nat) (w : World) (hd : 1 ≤ d ∧ d ≤ 1000000000) (hn : -1000000000 ≤ n ∧ n ≤ 1000000000) (hb : 2 ≤ b ∧ b ≤ 36) (hM : M ≤ 1000) :
    Calls Tryz.prog 104 #[.agg #[.int .i64 n, .int .i64 d], .int .i64 b, .int .i64 M] w fun e w' => ∃ a c, e = .returned (.tuple #[.int .i64 (n / d), .slice a M c]) ∧ Own w' w.heap.size (.slice a M c) (digsG d b M (n - n / d * d)) ∧ Bl w w' := by
  have hr : 0 ≤ n - n / d * d ∧ n - n / d * d < d := by
    have h1 := Int.emod_nonneg n (show d ≠ 0 by omega)
    have h2 := Int.emod_lt_of_pos n (show 0 < d by omega)
    have h3 := Int.mul_ediv_add_emod n d
    have h4 : n / d * d = d * (n / d) := Int.mul_comm _ _
    omega
  obtain ⟨T, hT⟩ : ∃ T, T = digsG d b M (n - n / d * d) := ⟨_, rfl⟩
  have hTl := Lib.hid (show T.length = M by rw [hT]; exact digsG_len _ _ _ _)
  rw [← hT]
  have HT := Lib.hid hT
  clear hT
  have hqb : -1000000000 ≤ n / d ∧ n / d ≤ 1000000000 := by
    have a := Int.mul_le_mul_of_nonneg_left (show 1 ≤ d by omega) (show (0 : Int) ≤ 1000000000 by omega)
    exact ⟨(Int.le_ediv_iff_mul_le (by omega)).2 (by omega), Int.ediv_le_of_le_mul (by omega) (by omega)⟩
  have hqd : n / d * d ≤ n ∧ n - d ≤ n / d * d := by omega
  go_enter Tryz.func104, Tryz.ntmps104
  go_wp2_with fail
  have B1 : Bl w (w.alloc (.cells #[.int .i64 n, .int .i64 d] 45)) := (bl_alloc (bl_refl _) _)
  have xF_1 : Bx (w.alloc (.cells #[.int .i64 n, .int .i64 d] 45)) (w.heap.size) #[.int .i64 n, .int .i64 d] := (Bx.new (b := w.heap.size) _ #[.int .i64 n, .int .i64 d] 45 (by first | rfl | simp))
  have zz1 : w.heap.size + 1 ≤ (w.alloc (.cells #[.int .i64 n, .int .i64 d] 45)).heap.size := (by simp)
  generalize (w.alloc (.cells #[.int .i64 n, .int .i64 d] 45)) = w1 at *
  obtain ⟨cF_1, fF_1, zF_1⟩ := xF_1.out
  refine (fdiv_any _ _ _ (by omega) (by omega) (by omega) (by omega)).mono ?_
  rintro e w9 ⟨rfl, rfl⟩
  go_wp2_with fail
  go_loopw [9, 10, 24] (fun s9 s10 s24 wr => ∃ (xs : List Int) (r : Int) (a : Option Addr) (c : Nat), s24 = .int .i64 xs.length ∧ s9 = .int .i64 r ∧ s10 = .slice a xs.length c ∧ xs.length ≤ M ∧ 0 ≤ r ∧ r < d ∧ Own wr w1.heap.size (.slice a xs.length c) xs ∧ Hid (xs ++ digsG d b (M - xs.length) r = T) ∧ Bx wr (w.heap.size) #[.int .i64 n, .int .i64 d] ∧ Bl w1 wr) (fun _ _ s24 _ => M - (intOf s24).toNat)
  case atStart => exact ⟨[], _, none, 0, rfl, rfl, rfl, Nat.zero_le _, by omega, by omega, Own.nil _ _, Lib.hid (by rw [HT.out]; rfl), xF_1, bl_refl _⟩
  case round =>
    rcases hrel with ⟨xs, r, a, c, rfl, rfl, rfl, hkM, hr1, hr2, ho, hx, yF, Bq⟩
    have Br : Bl w wr := bl_call B1 Bq
    have HO := Lib.hid ho
    clear ho cF_1 fF_1 zF_1
    obtain ⟨cF, fF, zF⟩ := yF.out
    have db := dig_bd hd hb ⟨hr1, hr2⟩
    obtain ⟨d1, d2, d3, d4, d5, d6⟩ := db
    rcases Nat.lt_or_ge xs.length M with hk | hk
    ·
      have HX := Lib.hid (digsG_step hk hx.out)
      go_wp2_with (at_builtin; refine wpList_append_one rfl _ _ rfl w1.heap.size _ xs (by rfl) HO.out _ (by unfold R64; omega) (by rfl) (by omega) (Bq.size) ?_; intro v' wn ho hg _; obtain ⟨a1, c1, rfl, _⟩ := ho.form; have xN := yF.grownApartF hg (fun q => by have := (HO.out.lt _ q).1; omega); clear cF fF zF; obtain ⟨cN, fN, zN⟩ := xN.out)
      have BN := bl_grown Bq hg (fun k hk => (HO.out.lt k hk).1)
      clear hg
      have HO2 := Lib.hid ho
      clear ho
      go_wp2
      go_roundw
      case rel => exact ⟨xs ++ [r * b / d], _, a1, c1, by simp, rfl, by simp, by simp; omega, d5, d6, HO2.out, by rw [List.length_append]; exact HX, xN, BN⟩
      case measure => clear HX; simp only [intOf, Int.toNat_natCast]; omega
    ·
      have HX := Lib.hid (digsG_end hk hx.out)
      have hkM2 : xs.length = M := by omega
      have HKM := Lib.hid hkM2
      clear hkM2
      go_wp2
      go_ret2
      have e := HX.out
      subst e
      have e2 := HKM.out
      subst e2
      exact ⟨a, c, rfl, HO.out.mono B1.size, Br⟩

end Go.Proofs.YtndblondleclpaaGreatDoor

/- DigitsOfFraction: the program and the reference give the same. Each theorem names its conditions. -/
namespace Go.Proofs.YtndblondleclpaaGreatDoor
open Go.RowKit
set_option linter.unusedVariables false
set_option linter.unusedSimpArgs false

/-- The digits of a fraction: floor, digits, code. -/
def dofF (n d b m : Int) : Int × List Int × Int :=
  if okF n d then (if inB b 2 36 then (if inB m 0 1000 then (n / d, digsG d b m.toNat (n - n / d * d), 0) else (0, [], 2)) else (0, [], 2)) else (0, [], 1)
theorem dof_bad {n d b m : Int} (h : okF n d = false) : dofF n d b m = (0, [], 1) := by simp [dofF, h]
theorem dof_base {n d b m : Int} (h : okF n d = true) (h2 : inB b 2 36 = false) : dofF n d b m = (0, [], 2) := by simp [dofF, h, h2]
theorem dof_cnt {n d b m : Int} (h : okF n d = true) (h2 : inB b 2 36 = true) (h3 : inB m 0 1000 = false) : dofF n d b m = (0, [], 2) := by simp [dofF, h, h2, h3]
theorem dof_yes {n d b : Int} {M : Nat} (h : okF n d = true) (h2 : inB b 2 36 = true) (h3 : inB (M : Int) 0 1000 = true) : dofF n d b M = (n / d, digsG d b M (n - n / d * d), 0) := by simp [dofF, h, h2, h3]
theorem dofF_len (n d b m : Int) : (dofF n d b m).2.1.length ≤ 1048576 := by
  cases e1 : okF n d
  · rw [dof_bad e1]; simp
  · cases e2 : inB b 2 36
    · rw [dof_base e1 e2]; simp
    · cases e3 : inB m 0 1000
      · rw [dof_cnt e1 e2 e3]; simp
      · have hm := inB_iff.1 e3
        obtain ⟨M, rfl⟩ := Int.eq_ofNat_of_zero_le hm.1
        rw [dof_yes e1 e2 e3]
        simp only [digsG_len]
        omega
theorem rest_ok {n d : Int} (hd : 1 ≤ d) : 0 ≤ n - n / d * d ∧ n - n / d * d < d := by
  have h1 := Int.emod_nonneg n (show d ≠ 0 by omega)
  have h2 := Int.emod_lt_of_pos n (show 0 < d by omega)
  have h3 := Int.mul_ediv_add_emod n d
  have h4 : n / d * d = d * (n / d) := Int.mul_comm _ _
  omega
theorem floor_ok {n d : Int} (hd : 1 ≤ d) (hn : -1000000000 ≤ n ∧ n ≤ 1000000000) : -1000000000 ≤ n / d ∧ n / d ≤ 1000000000 := by
  have a := Int.mul_le_mul_of_nonneg_left hd (show (0 : Int) ≤ 1000000000 by omega)
  exact ⟨(Int.le_ediv_iff_mul_le (by omega)).2 (by omega), Int.ediv_le_of_le_mul (by omega) (by omega)⟩
theorem validF_eq {n d : Int} {b : Bool} (h : okF n d = b) (w : World) : Calls Tryz.prog 78 #[.agg #[.int .i64 n, .int .i64 d]] w fun e w' => e = .returned (.bool b) ∧ Bl w w' := h ▸ validF_any n d w
theorem ok_eq {n d : Int} {b : Bool} (h : okF n d = b) (w : World) : Calls Tryz.prog 82 #[.agg #[.int .i64 n, .int .i64 d]] w fun e w' => e = .returned (.bool b) ∧ Bl w w' := h ▸ ok_any n d w

set_option maxRecDepth 100000 in
set_option maxHeartbeats 1600000 in
theorem impl_DigitsOfFraction (n d b m : Int) (w : World) :
    Calls Tryz.prog 43 #[.agg #[.int .i64 n, .int .i64 d], .int .i64 b, .int .i64 m] w fun e w' => ∃ a k c, e = .returned (.tuple #[.int .i64 (dofF n d b m).1, .slice a k c, .int .i64 (dofF n d b m).2.2]) ∧ Own w' w.heap.size (.slice a k c) (dofF n d b m).2.1 ∧ Bl w w' := by
  cases e1 : okF n d with
  | false =>
    have HR := Lib.hid (dof_bad (b := b) (m := m) e1)
    have E1 := Lib.hid e1
    clear e1
    go_enter Tryz.func43, Tryz.ntmps43
    go_wp2_with fail
    refine (validF_eq E1.out _).mono ?_
    rintro e w1 ⟨rfl, hb1⟩
    have B1 : Bl w w1 := bl_call (bl_alloc (bl_refl _) _) hb1
    have xF_1 : Bx w1 (w.heap.size) #[.int .i64 n, .int .i64 d] := (Bx.new (b := w.heap.size) _ #[.int .i64 n, .int .i64 d] 45 (by first | rfl | simp)).below hb1
    obtain ⟨cF_1, fF_1, zF_1⟩ := xF_1.out
    go_wp2
    go_ret3
    rw [HR.out]
    exact ⟨none, 0, 0, rfl, Own.nil _ _, B1⟩
  | true =>
    have hF := okF_iff.1 e1
    cases e2 : inB b 2 36 with
    | false =>
      have HR := Lib.hid (dof_base (m := m) e1 e2)
      have E1 := Lib.hid e1
      clear e1
      have E2 := Lib.hid e2
      clear e2
      go_enter Tryz.func43, Tryz.ntmps43
      go_wp2_with fail
      refine (validF_eq E1.out _).mono ?_
      rintro e w1 ⟨rfl, hb1⟩
      have B1 : Bl w w1 := bl_call (bl_alloc (bl_refl _) _) hb1
      have xF_1 : Bx w1 (w.heap.size) #[.int .i64 n, .int .i64 d] := (Bx.new (b := w.heap.size) _ #[.int .i64 n, .int .i64 d] 45 (by first | rfl | simp)).below hb1
      obtain ⟨cF_1, fF_1, zF_1⟩ := xF_1.out
      go_wp2_with fail
      refine (ibase_eq E2.out _).mono ?_
      rintro e w9 ⟨rfl, rfl⟩
      go_wp2
      go_ret3
      rw [HR.out]
      exact ⟨none, 0, 0, rfl, Own.nil _ _, B1⟩
    | true =>
      have hb := inB_iff.1 e2
      cases e3 : inB m 0 1000 with
      | false =>
        have HR := Lib.hid (dof_cnt e1 e2 e3)
        have E1 := Lib.hid e1
        clear e1
        have E2 := Lib.hid e2
        clear e2
        have E3 := Lib.hid e3
        clear e3
        go_enter Tryz.func43, Tryz.ntmps43
        go_wp2_with fail
        refine (validF_eq E1.out _).mono ?_
        rintro e w1 ⟨rfl, hb1⟩
        have B1 : Bl w w1 := bl_call (bl_alloc (bl_refl _) _) hb1
        have xF_1 : Bx w1 (w.heap.size) #[.int .i64 n, .int .i64 d] := (Bx.new (b := w.heap.size) _ #[.int .i64 n, .int .i64 d] 45 (by first | rfl | simp)).below hb1
        obtain ⟨cF_1, fF_1, zF_1⟩ := xF_1.out
        go_wp2_with fail
        refine (ibase_eq E2.out _).mono ?_
        rintro e w9 ⟨rfl, rfl⟩
        go_wp2_with fail
        refine (inB_eq E3.out _).mono ?_
        rintro e w9 ⟨rfl, rfl⟩
        go_wp2
        go_ret3
        rw [HR.out]
        exact ⟨none, 0, 0, rfl, Own.nil _ _, B1⟩
      | true =>
        have hm := inB_iff.1 e3
        obtain ⟨M, rfl⟩ := Int.eq_ofNat_of_zero_le hm.1
        obtain ⟨hd, hn, _⟩ := hF
        have HR := Lib.hid (dof_yes e1 e2 e3)
        have E1 := Lib.hid e1
        clear e1
        have E2 := Lib.hid e2
        clear e2
        have E3 := Lib.hid e3
        clear e3
        go_enter Tryz.func43, Tryz.ntmps43
        go_wp2_with fail
        refine (validF_eq E1.out _).mono ?_
        rintro e w1 ⟨rfl, hb1⟩
        have B1 : Bl w w1 := bl_call (bl_alloc (bl_refl _) _) hb1
        have xF_1 : Bx w1 (w.heap.size) #[.int .i64 n, .int .i64 d] := (Bx.new (b := w.heap.size) _ #[.int .i64 n, .int .i64 d] 45 (by first | rfl | simp)).below hb1
        obtain ⟨cF_1, fF_1, zF_1⟩ := xF_1.out
        go_wp2_with fail
        refine (ibase_eq E2.out _).mono ?_
        rintro e w9 ⟨rfl, rfl⟩
        go_wp2_with fail
        refine (inB_eq E3.out _).mono ?_
        rintro e w9 ⟨rfl, rfl⟩
        go_wp2_with fail
        refine (fdigs_any n d b M _ (by omega) (by omega) hb (by omega)).mono ?_
        rintro e w2 ⟨xa, xc, rfl, HX, hb2⟩
        have B2 : Bl w w2 := bl_call B1 hb2
        have xF_2 : Bx w2 (w.heap.size) #[.int .i64 n, .int .i64 d] := xF_1.below hb2
        clear cF_1 fF_1 zF_1
        obtain ⟨cF_2, fF_2, zF_2⟩ := xF_2.out
        have HX := Lib.hid HX
        go_wp2
        go_ret3
        rw [HR.out]
        exact ⟨xa, M, xc, rfl, HX.out.mono B1.size, B2⟩

end Go.Proofs.YtndblondleclpaaGreatDoor

/- DigitPeriod: the program and the reference give the same. Each theorem names its conditions. -/
namespace Go.Proofs.YtndblondleclpaaGreatDoor
open Go.RowKit
set_option linter.unusedVariables false
set_option linter.unusedSimpArgs false

theorem lawK : Maps.Keyed Tryz.prog 2 := Maps.int_keyed Tryz.underlying2
theorem zeroK (w : World) : (zeroValue 2).run Tryz.prog w = .ok (.int .i64 0) w := by kernel_rfl
theorem ikey {x y : Int} (h : x ≠ y) : (Lit.int .i64 x) ≠ (Lit.int .i64 y) := fun e => h (by injection e)

set_option maxHeartbeats 400000 in
theorem fmod_any (a b : Int) (w : World) (ha : -1000000000 ≤ a ∧ a ≤ 1000000000) (hb : 1 ≤ b ∧ b ≤ 1000000000) :
    Calls Tryz.prog 80 #[.int .i64 a, .int .i64 b] w fun e w' => e = .returned (.int .i64 (a % b)) ∧ w = w' := by
  have h1 := Int.emod_nonneg a (show b ≠ 0 by omega)
  have h2 := Int.emod_lt_of_pos a (show 0 < b by omega)
  have h3 := Int.mul_ediv_add_emod a b
  have h4 : a - b < b * (a / b) ∧ b * (a / b) ≤ a := by omega
  have H := Lib.hid (show a - b * (a / b) = a % b by omega)
  clear h1 h2 h3
  go_enter Tryz.func80, Tryz.ntmps80
  go_wp2_with fail
  refine (fdiv_any _ _ _ (by omega) (by omega) (by omega) (by omega)).mono ?_
  rintro e w' ⟨rfl, rfl⟩
  go_wp2
  go_ret
  exact ⟨ret_int H.out, rfl⟩

/-- What has been collected of a map's keys, and what is still to come. -/
def Coll (D : DataW Unit) (left : Lit → Bool) (ys : List Int) : Prop :=
  ys.Nodup ∧ (∀ y ∈ ys, Maps.has D (.int .i64 y) = true) ∧ ∀ y, left (.int .i64 y) = true ↔ Maps.has D (.int .i64 y) = true ∧ y ∉ ys
theorem Coll.start (D : DataW Unit) : Coll D (Maps.has D) [] := ⟨List.nodup_nil, by simp, by simp⟩
theorem Coll.step {D : DataW Unit} {left : Lit → Bool} {ys : List Int} {x : Int} (h : Coll D left ys) (hx : left (.int .i64 x) = true) : Coll D (fun z => left z && !z.sameKey (.int .i64 x)) (ys ++ [x]) := by
  obtain ⟨h1, h2, h3⟩ := h
  have hx2 := (h3 x).1 hx
  refine ⟨?_, ?_, ?_⟩
  · rw [List.nodup_append]
    exact ⟨h1, by simp, fun a ha b hb e => by simp at hb; subst hb; subst e; exact hx2.2 ha⟩
  · intro y hy
    rcases List.mem_append.1 hy with hy | hy
    · exact h2 y hy
    · simp at hy; subst hy; exact hx2.1
  · intro y
    have := h3 y
    simp only [Bool.and_eq_true, List.mem_append, List.mem_singleton, not_or, Lit.sameKey, Bool.not_eq_true', decide_eq_false_iff_not, true_and]
    rw [this, and_assoc]
theorem Coll.le {D : DataW Unit} {left : Lit → Bool} {ys xs : List Int} (h : Coll D left ys) (hx : ∀ x, Maps.has D (.int .i64 x) = true ↔ x ∈ xs) : ys.length ≤ xs.length :=
  List.Nodup.length_le_of_subset h.1 (fun y hy => (hx y).1 (h.2.1 y hy))
theorem Coll.fin {D : DataW Unit} {left : Lit → Bool} {ys xs : List Int} (h : Coll D left ys) (hx : ∀ x, Maps.has D (.int .i64 x) = true ↔ x ∈ xs) (hn : xs.Nodup) (hl : ∀ kl, left kl = false) : ys.length = xs.length := by
  refine Nat.le_antisymm (h.le hx) (List.Nodup.length_le_of_subset hn (fun y hy => ?_))
  refine Classical.byContradiction fun hc => ?_
  have := (h.2.2 y).2 ⟨(hx y).2 hy, hc⟩
  rw [hl] at this
  cases this
theorem Coll.lt {D : DataW Unit} {left : Lit → Bool} {ys xs : List Int} {x : Int} (h : Coll D left ys) (hx : ∀ x, Maps.has D (.int .i64 x) = true ↔ x ∈ xs) (hl : left (.int .i64 x) = true) : ys.length < xs.length := by
  have := (h.step hl).le hx
  simp at this
  omega

set_option maxRecDepth 100000 in
set_option maxHeartbeats 1600000 in
theorem keys_any (b n : Nat) (D : DataW Unit) (xs : List Int) (w : World) (hown : w.ownsMap Tryz.prog 2 (plainElem Tryz.prog 2) b n D) (hnd : xs.Nodup) (hl : xs.length ≤ 1000000) (hx : ∀ x, Maps.has D (.int .i64 x) = true ↔ x ∈ xs) :
    Calls Tryz.prog 81 #[.map (some b)] w fun e w' => ∃ a c, e = .returned (.slice a xs.length c) ∧ Bl w w' := by
  have HX := Lib.hid hx
  have HN := Lib.hid hnd
  clear hx hnd
  go_enter Tryz.func81, Tryz.ntmps81
  go_wp2_with (first
    | (at_range; refine wpList_range_own _ rfl _ 102 rfl 2 2 lawK Tryz.underlying102 _ b n _ rfl hown ?_; intro w0 hrg0 hg0 hs0)
    | go_in)
  go_frame
  have HS := Lib.hid hs0
  clear hs0
  go_loopw [3, 4] (fun s3 _ wr => ∃ (left : Lit → Bool) (cnt : Nat) (ys : List Int) (a : Option Addr) (c : Nat), s3 = .slice a ys.length c ∧ Own wr (w.heap.size + 1) (.slice a ys.length c) ys ∧ wr.ranges Tryz.prog 2 (plainElem Tryz.prog 2) b w.heap.size n D left cnt ∧ Hid (Coll D left ys) ∧ Bl w wr) (fun _ _ wr => wr.rangeLeft b w.heap.size)
  case atStart => exact ⟨_, _, [], none, 0, rfl, Own.nil _ _, hrg0, Lib.hid (Coll.start D), below_of_grown hg0⟩
  case round =>
    obtain ⟨left, cnt, ys, a, c, rfl, ho, hrg, hC, B1⟩ := hrel
    have HO := Lib.hid ho
    clear ho
    have hrlt := hrg.lt
    go_wp2_with (first
      | (at_next; refine wpList_next_ranges_ii _ rfl _ rfl 2 2 .i64 .i64 lawK Tryz.underlying2 Tryz.underlying2 b w.heap.size n _ _ _ rfl hrg ?_ ?_)
      | go_in)
    · intro hc0 hl0
      have HL := Lib.hid (hC.out.fin HX.out HN.out hl0)
      clear hl0 hc0
      go_wp2
      go_ret
      have e := HL.out
      exact ⟨a, c, by rw [e]; rfl, B1⟩
    · intro x y w1 cnt1 hwx hwc hlx hat hrg1 hlt hg1 hs1 hen
      have hlen := hC.out.lt HX.out hlx
      have HC1 := Lib.hid (hC.out.step hlx)
      have hb := HO.out.lt
      have ho1 := HO.out.grown hg1 (by cases hv : (Value.slice a ys.length c).ownBlock with | none => exact .inl rfl | some k => refine .inr ?_; intro e; injection e with e; have := (hb k hv).1; omega)
      have hB1 : Bl w w1 := B1.trans ⟨hg1.os, hg1.tape, hg1.output, hg1.size, fun k hk => hg1.block k (Nat.lt_of_lt_of_le hk B1.size) (by intro e; injection e with e; omega)⟩
      have H1 := Lib.hid ho1
      have hrlt1 := hrg1.lt
      have HR64 := Lib.hid (show R64 x by have := Go.bounds_i64 hwx; unfold R64; omega)
      have HLQ := Lib.hid hrg.left_eq
      clear hC hlx hat hs1 ho1 hb hg1 hwx hwc hrg
      go_wp2_with (first
        | (at_builtin; refine wpList_append_one rfl _ _ rfl (w.heap.size + 1) _ ys (by rfl) H1.out x HR64.out (by rfl) (by omega) (by omega) ?_; intro v' wn ho hg _; obtain ⟨a1, c1, rfl, _⟩ := ho.form)
        | go_in)
      have hb1 := H1.out.lt
      have hrg2 := hrg1.kept hg (fun e => by have := (hb1 b e.symm).1; have := hown.lt; omega) (fun e => by have := (hb1 _ e.symm).1; omega)
      have hB2 := bl_grown hB1 hg (fun k hk => by have := (hb1 k hk).1; omega)
      have HO2 := Lib.hid ho
      clear hb1 hg ho
      go_roundw
      case rel => exact ⟨_, _, ys ++ [x], a1, c1, by simp, by simpa using HO2.out, hrg2, HC1, hB2⟩
      case measure => rw [hrg2.left_eq, HLQ.out]; omega

/-- The rests of n over d in base b. -/
def rr (n d b i : Nat) : Int := ((n * b ^ i % d : Nat) : Int)
theorem rr_bd {n d b : Nat} (hd : 0 < d) (i : Nat) : 0 ≤ rr n d b i ∧ rr n d b i < d := by
  unfold rr
  have := Nat.mod_lt (n * b ^ i) hd
  omega
theorem rr_step (n d b i : Nat) : rr n d b i * b % d = rr n d b (i + 1) := by
  unfold rr
  rw [← Int.natCast_mul, ← Int.natCast_emod, Nat.mod_mul_mod, Nat.pow_succ, Nat.mul_assoc]
/-- What the map holds: the first k rests, each with its place. -/
def RestMap (D : DataW Unit) (n d b k : Nat) : Prop :=
  (∀ x, Maps.has D (.int .i64 x) = true ↔ ∃ i, i < k ∧ rr n d b i = x) ∧ ∀ i, i < k → ∀ z, D.atKey (.int .i64 (rr n d b i)) z = .lit (.int .i64 i)
theorem RestMap.start (n d b : Nat) : RestMap (.map []) n d b 0 := ⟨fun x => ⟨fun h => by simp [Maps.has] at h, fun ⟨i, hi, _⟩ => absurd hi (by omega)⟩, fun i hi => absurd hi (by omega)⟩
theorem RestMap.no {D : DataW Unit} {n d b k : Nat} {x : Int} (h : RestMap D n d b k) (hx : ¬ ∃ i, i < k ∧ rr n d b i = x) : Maps.has D (.int .i64 x) = false := by
  cases e : Maps.has D (.int .i64 x)
  · rfl
  · exact absurd ((h.1 x).1 e) hx
theorem RestMap.yes {D : DataW Unit} {n d b k : Nat} {x : Int} (h : RestMap D n d b k) (hx : ∃ i, i < k ∧ rr n d b i = x) : Maps.has D (.int .i64 x) = true := (h.1 x).2 hx
theorem RestMap.put {D : DataW Unit} {n d b k : Nat} {x : Int} (h : RestMap D n d b k) (hD : Maps.IsMap D) (hx : x = rr n d b k) (hn : ¬ ∃ i, i < k ∧ rr n d b i = x) : RestMap (D.put (.int .i64 x) (.lit (.int .i64 k))) n d b (k + 1) := by
  obtain ⟨h1, h2⟩ := h
  refine ⟨fun y => ?_, fun i hi z => ?_⟩
  · by_cases hy : y = x
    · subst hy
      rw [Maps.has_put_same hD (by exact trivial)]
      exact ⟨fun _ => ⟨k, by omega, hx.symm⟩, fun _ => rfl⟩
    · rw [Maps.has_put_other (ikey hy), h1]
      constructor
      · rintro ⟨i, hi, e⟩; exact ⟨i, by omega, e⟩
      · rintro ⟨i, hi, e⟩
        refine ⟨i, ?_, e⟩
        rcases Nat.lt_or_ge i k with c | c
        · exact c
        · obtain rfl : i = k := by omega
          exact absurd (e.symm.trans hx.symm) hy
  · by_cases hk : i = k
    · subst hk
      rw [← hx, Maps.atKey_put_same hD (by exact trivial)]
    · have hne : rr n d b i ≠ x := fun e => hn ⟨i, by omega, e⟩
      rw [Maps.atKey_put_other (ikey hne)]
      exact h2 i (by omega) z
/-- The first k rests are distinct, and none is nought. -/
def Rng (n d b k : Nat) : Prop := (∀ i j, i < j → j < k → rr n d b j ≠ rr n d b i) ∧ ∀ j, j < k → rr n d b j ≠ 0
theorem Rng.start (n d b : Nat) : Rng n d b 0 := ⟨fun i j _ h => absurd h (by omega), fun j h => absurd h (by omega)⟩
theorem Rng.step {n d b k : Nat} {x : Int} (h : Rng n d b k) (hx : x = rr n d b k) (h0 : x ≠ 0) (hn : ¬ ∃ i, i < k ∧ rr n d b i = x) : Rng n d b (k + 1) := by
  refine ⟨fun i j hij hj e => ?_, fun j hj e => ?_⟩
  · rcases Nat.lt_or_ge j k with c | c
    · exact h.1 i j hij c e
    · obtain rfl : j = k := by omega
      exact hn ⟨i, hij, e.symm.trans hx.symm⟩
  · rcases Nat.lt_or_ge j k with c | c
    · exact h.2 j c e
    · obtain rfl : j = k := by omega
      exact h0 (hx.trans e)
theorem Rng.le {n d b k : Nat} (hd : 0 < d) (h : Rng n d b k) : k ≤ d := by
  refine pigeon d k (fun i => n * b ^ i % d) (fun i _ => Nat.mod_lt _ hd) (fun i j hij hj e => h.1 i j hij hj ?_)
  unfold rr
  omega
theorem Rng.list {n d b k : Nat} (h : Rng n d b k) : ((List.range k).map (rr n d b)).Nodup := by
  unfold List.Nodup
  rw [List.pairwise_map]
  refine List.Pairwise.imp_of_mem ?_ List.pairwise_lt_range
  intro i j hi hj hij e
  exact h.1 i j hij (List.mem_range.1 hj) e.symm
theorem Rng.pow {n d b k : Nat} (hg : n.gcd d = 1) (hb : 2 ≤ b) (h : Rng n d b k) : (∀ i j, i < j → j < k → b ^ j % d ≠ b ^ i % d) ∧ ∀ j, j < k → ¬ d ∣ b ^ j := by
  refine ⟨fun i j hij hj e => h.1 i j hij hj ?_, fun j hj hd => h.2 j hj ?_⟩
  · unfold rr
    rw [(rest_eq hg hb (Nat.le_of_lt hij)).2 e]
  · unfold rr
    rw [(rest_zero hg).2 hd]; rfl
theorem fin0 {n d b k : Nat} (hd : 0 < d) (hg : n.gcd d = 1) (hb : 2 ≤ b) (h : Rng n d b k) (h0 : rr n d b k = 0) : perN d b = (k, 0) := by
  have p := perN_is hd hb
  obtain ⟨e1, e2⟩ := per_end0 p ((rest_zero hg).1 (by unfold rr at h0; omega)) (h.pow hg hb).2
  rw [← e1, ← e2]
theorem fin1 {n d b k a : Nat} (hd : 0 < d) (hg : n.gcd d = 1) (hb : 2 ≤ b) (h : Rng n d b k) (ha : a < k) (h0 : rr n d b a = rr n d b k) : perN d b = (a, k - a) := by
  have p := perN_is hd hb
  obtain ⟨e1, e2⟩ := per_end1 p hb ha ((rest_eq hg hb (Nat.le_of_lt ha)).1 (by unfold rr at h0; omega)) (h.pow hg hb).1 (h.pow hg hb).2
  rw [← e2, ← e1]
/-- How many digits stand before those that repeat, how many repeat, and a code. -/
noncomputable def perF (n d b : Int) : Int × Int × Int :=
  if okF n d then (if inB b 2 36 then (if d ≤ 100000 then (((perN d.toNat b.toNat).1 : Int), ((perN d.toNat b.toNat).2 : Int), 0) else (0, 0, 2)) else (0, 0, 2)) else (0, 0, 1)
theorem per_bad {n d b : Int} (h : okF n d = false) : perF n d b = (0, 0, 1) := by simp [perF, h]
theorem per_base {n d b : Int} (h : okF n d = true) (h2 : inB b 2 36 = false) : perF n d b = (0, 0, 2) := by simp [perF, h, h2]
theorem per_big {n d b : Int} (h : okF n d = true) (h2 : inB b 2 36 = true) (h3 : 100000 < d) : perF n d b = (0, 0, 2) := by
  have : ¬ d ≤ 100000 := by omega
  simp [perF, h, h2, this]
theorem per_yes {n : Int} {d b : Nat} (h : okF n d = true) (h2 : inB (b : Int) 2 36 = true) (h3 : (d : Int) ≤ 100000) : perF n d b = (((perN d b).1 : Int), ((perN d b).2 : Int), 0) := by simp [perF, h, h2, h3]
theorem ret_3 {r : Int × Int × Int} {a b c : Int} (h : r = (a, b, c)) : Ending.returned (.tuple #[.int .i64 a, .int .i64 b, .int .i64 c]) = .returned (.tuple #[.int .i64 r.1, .int .i64 r.2.1, .int .i64 r.2.2]) := by subst h; rfl

theorem gcd_rest {n : Int} {d N : Nat} (h : n % (d : Int) = N) (hg : gcdI n d = 1) : N.gcd d = 1 := by
  have e : gcdI (n % d) d = 1 := by
    have g1 : gcdI (n % d) d ∣ n % d := Int.gcd_dvd_left _ _
    have g2 : gcdI (n % d) d ∣ d := Int.gcd_dvd_right _ _
    have g3 : gcdI (n % d) d ∣ n := by
      have e1 : gcdI (n % d) d ∣ d * (n / d) + n % d := Int.dvd_add (Int.dvd_trans g2 (Int.dvd_mul_right _ _)) g1
      rwa [Int.mul_ediv_add_emod] at e1
    have g4 : gcdI (n % d) d ∣ 1 := by
      rw [← hg]
      exact Int.dvd_coe_gcd g3 g2
    exact Int.eq_one_of_dvd_one (by unfold gcdI; omega) g4
  rw [h] at e
  have : ((N.gcd d : Nat) : Int) = 1 := e
  omega
theorem mul_bd36 {x : Int} {b : Nat} (hx : 0 ≤ x ∧ x ≤ 100000) (hb : (b : Int) ≤ 36) : 0 ≤ x * b ∧ x * b ≤ 3600000 := by
  have a1 := Int.mul_nonneg hx.1 (show (0 : Int) ≤ b by omega)
  have a2 := Int.mul_le_mul hx.2 hb (show (0 : Int) ≤ b by omega) (by omega)
  exact ⟨a1, by omega⟩

set_option maxRecDepth 100000 in
set_option maxHeartbeats 3200000 in
theorem impl_DigitPeriod (n d b : Int) (w : World) :
    Calls Tryz.prog 28 #[.agg #[.int .i64 n, .int .i64 d], .int .i64 b] w fun e w' => e = .returned (.tuple #[.int .i64 (perF n d b).1, .int .i64 (perF n d b).2.1, .int .i64 (perF n d b).2.2]) ∧ Bl w w' := by
  cases e1 : okF n d with
  | false =>
    have HR := Lib.hid (per_bad (b := b) e1)
    have E1 := Lib.hid e1
    clear e1
    go_enter Tryz.func28, Tryz.ntmps28
    go_wp2_with fail
    refine (validF_eq E1.out _).mono ?_
    rintro e w1 ⟨rfl, hb1⟩
    have B1 : Bl w w1 := bl_call (bl_alloc (bl_refl _) _) hb1
    have xF_1 : Bx w1 (w.heap.size) #[.int .i64 n, .int .i64 d] := (Bx.new (b := w.heap.size) _ #[.int .i64 n, .int .i64 d] 45 (by first | rfl | simp)).below hb1
    obtain ⟨cF_1, fF_1, zF_1⟩ := xF_1.out
    go_wp2
    go_ret3
    exact ⟨ret_3 HR.out, B1⟩
  | true =>
    have hF := okF_iff.1 e1
    cases e2 : inB b 2 36 with
    | false =>
      have HR := Lib.hid (per_base e1 e2)
      have E1 := Lib.hid e1
      clear e1
      have E2 := Lib.hid e2
      clear e2
      go_enter Tryz.func28, Tryz.ntmps28
      go_wp2_with fail
      refine (validF_eq E1.out _).mono ?_
      rintro e w1 ⟨rfl, hb1⟩
      have B1 : Bl w w1 := bl_call (bl_alloc (bl_refl _) _) hb1
      have xF_1 : Bx w1 (w.heap.size) #[.int .i64 n, .int .i64 d] := (Bx.new (b := w.heap.size) _ #[.int .i64 n, .int .i64 d] 45 (by first | rfl | simp)).below hb1
      obtain ⟨cF_1, fF_1, zF_1⟩ := xF_1.out
      go_wp2_with fail
      refine (ibase_eq E2.out _).mono ?_
      rintro e w9 ⟨rfl, rfl⟩
      go_wp2
      go_ret3
      exact ⟨ret_3 HR.out, B1⟩
    | true =>
      have hb := inB_iff.1 e2
      by_cases h3 : 100000 < d
      ·
       have HR := Lib.hid (per_big e1 e2 h3)
       have E1 := Lib.hid e1
       clear e1
       have E2 := Lib.hid e2
       clear e2
       go_enter Tryz.func28, Tryz.ntmps28
       go_wp2_with fail
       refine (validF_eq E1.out _).mono ?_
       rintro e w1 ⟨rfl, hb1⟩
       have B1 : Bl w w1 := bl_call (bl_alloc (bl_refl _) _) hb1
       have xF_1 : Bx w1 (w.heap.size) #[.int .i64 n, .int .i64 d] := (Bx.new (b := w.heap.size) _ #[.int .i64 n, .int .i64 d] 45 (by first | rfl | simp)).below hb1
       obtain ⟨cF_1, fF_1, zF_1⟩ := xF_1.out
       go_wp2_with fail
       refine (ibase_eq E2.out _).mono ?_
       rintro e w9 ⟨rfl, rfl⟩
       go_wp2
       go_ret3
       exact ⟨ret_3 HR.out, B1⟩
      ·
        have h3' : d ≤ 100000 := by omega
        obtain ⟨⟨hd1, hd2⟩, hn, hg⟩ := hF
        obtain ⟨d, rfl⟩ := Int.eq_ofNat_of_zero_le (show 0 ≤ d by omega)
        obtain ⟨b, rfl⟩ := Int.eq_ofNat_of_zero_le (show 0 ≤ b by omega)
        have hd0 : 0 < d := by omega
        have hb0 : 2 ≤ b := by omega
        have hg1 : gcdI n d = 1 := hg
        clear hg
        have HR := Lib.hid (per_yes e1 e2 h3')
        have E1 := Lib.hid e1
        clear e1
        have E2 := Lib.hid e2
        clear e2
        obtain ⟨N, hN⟩ := Int.eq_ofNat_of_zero_le (Int.emod_nonneg n (show (d : Int) ≠ 0 by omega))
        have HG := Lib.hid (gcd_rest hN hg1)
        have HN := Lib.hid hN
        clear hN hg1
        have hmm := @run_makeMap Tryz.prog
        go_enter Tryz.func28, Tryz.ntmps28
        go_wp2_with fail
        refine (validF_eq E1.out _).mono ?_
        rintro e w1 ⟨rfl, hb1⟩
        have B1 : Bl w w1 := bl_call (bl_alloc (bl_refl _) _) hb1
        have xF_1 : Bx w1 (w.heap.size) #[.int .i64 n, .int .i64 ((d : Nat) : Int)] := (Bx.new (b := w.heap.size) _ #[.int .i64 n, .int .i64 ((d : Nat) : Int)] 45 (by first | rfl | simp)).below hb1
        obtain ⟨cF_1, fF_1, zF_1⟩ := xF_1.out
        go_wp2_with fail
        refine (ibase_eq E2.out _).mono ?_
        rintro e w9 ⟨rfl, rfl⟩
        go_wp2_with fail
        refine (fmod_any _ _ _ (by omega) (by omega)).mono ?_
        rintro e w9 ⟨rfl, rfl⟩
        rw [HN.out]
        go_wp2_with fail
        obtain ⟨wm, HWM⟩ : ∃ wm : World, Hid (wm = w1.alloc (.map #[] 0)) := ⟨_, Lib.hid rfl⟩
        have hown0 : (w1.alloc (.map #[] 0)).ownsMap Tryz.prog 2 (plainElem (H := Unit) Tryz.prog 2) w1.heap.size 0 (.map []) := World.ownsMap_made _ _ _ _
        have xM := (xF_1).alloc (.map #[] 0)
        have hz1 := xF_1.out.2.2
        go_loopw [8, 9, 10, 11] (fun s8 s9 _ _ wr => ∃ (k : Nat) (x : Int) (D : DataW Unit), s9 = .int .i64 k ∧ s8 = .int .i64 x ∧ 0 ≤ x ∧ x < d ∧ k ≤ d ∧ Hid (x = rr N d b k) ∧ Hid (Rng N d b k) ∧ Hid (RestMap D N d b k) ∧ wr.ownsMap Tryz.prog 2 (plainElem Tryz.prog 2) w1.heap.size k D ∧ Bx wr w.heap.size #[.int .i64 n, .int .i64 d] ∧ Bl w1 wr) (fun _ s9 _ _ _ => d + 1 - (intOf s9).toNat)
        case atStart => exact ⟨0, ((N : Nat) : Int), .map [], rfl, rfl, by omega, (by have := Int.emod_lt_of_pos n (show (0 : Int) < d by omega); have := HN.out; omega), Nat.zero_le _, Lib.hid (by unfold rr; rw [Nat.pow_zero, Nat.mul_one, Nat.mod_eq_of_lt (by have := Int.emod_lt_of_pos n (show (0 : Int) < d by omega); have := HN.out; omega)]), Lib.hid (Rng.start _ _ _), Lib.hid (RestMap.start _ _ _), hown0, xM, bl_alloc (bl_refl _) _⟩
        case round =>
          obtain ⟨k, x, D, rfl, rfl, hx0, hxd, hkd, HX, HRG, HM, hown, xF, Bq⟩ := hrel
          have Br : Bl w wr := bl_call B1 Bq
          clear hown0 xM cF_1 fF_1 zF_1
          obtain ⟨cF, fF, zF⟩ := xF.out
          have hxb := mul_bd36 (x := x) (b := b) ⟨hx0, by omega⟩ (by omega)
          by_cases h0 : x = 0
          · have c0 : (x != 0) = false := by simp [h0]
            have HF := Lib.hid (fin0 hd0 HG.out hb0 HRG.out (by rw [← HX.out]; exact h0))
            have HLS := Lib.hid HRG.out.list
            have HMS := Lib.hid (show ∀ x, Maps.has D (.int .i64 x) = true ↔ x ∈ (List.range k).map (rr N d b) from fun x => by rw [HM.out.1 x]; simp [List.mem_map, List.mem_range])
            clear h0
            go_wp2_with fail
            refine (keys_any _ _ D ((List.range k).map (rr N d b)) _ hown HLS.out (by simp; omega) HMS.out).mono ?_
            rintro e w2 ⟨a, c, rfl, hb2⟩
            rw [show ((List.range k).map (rr N d b)).length = k by simp]
            go_wp2_with fail
            refine (lsize_any _ _ _ _ (by omega)).mono ?_
            rintro e w3 ⟨rfl, rfl⟩
            go_wp2
            go_ret3
            exact ⟨ret_3 (by rw [HR.out, HF.out]; rfl), bl_call Br hb2⟩
          · have c0 : (x != 0) = true := by simp [h0]
            have HK := Lib.hid (show keyOf Tryz.prog 2 (.int .i64 x) = some (.int .i64 x) from Maps.keyOf_int_mk Tryz.underlying2 (WalkArith.wf_i64 (by omega)))
            by_cases hin : ∃ i, i < k ∧ rr N d b i = x
            · have hh : Maps.has D (Lit.int .i64 x) = true := HM.out.yes hin
              obtain ⟨i, hi, hix⟩ := hin
              have HF := Lib.hid (fin1 hd0 HG.out hb0 HRG.out hi (hix.trans HX.out))
              have HAT := Lib.hid (show D.atKey (.int .i64 x) (.lit (.int .i64 0)) = .lit (.int .i64 i) by rw [← hix]; exact HM.out.2 i hi _)
              have HIX := Lib.hid hix
              clear hix h0
              go_wp2_with (at_lookup; refine wpList_lookup_own_ok_int _ rfl _ _ 102 rfl 2 2 .i64 lawK Tryz.underlying102 Tryz.underlying2 (zeroK _) w1.heap.size k _ rfl hown _ _ rfl HK.out ?_; intro c hat hwc; have hci : c = i := (by have e := hat.symm.trans HAT.out; injection e with e; injection e with _ e); clear hat hwc; subst hci)
              go_ret3
              exact ⟨ret_3 (by rw [HR.out, HF.out]; simp; omega), Br⟩
            · have hh : Maps.has D (Lit.int .i64 x) = false := HM.out.no hin
              have HRG2 := Lib.hid (HRG.out.step HX.out h0 hin)
              have hk2 := HRG2.out.le hd0
              have HM2 := Lib.hid (HM.out.put hown.isMap HX.out hin)
              have HX2 := Lib.hid (show x * b % d = rr N d b (k + 1) by rw [HX.out]; exact rr_step _ _ _ _)
              have hxm1 := Int.emod_nonneg (x * b) (show (d : Int) ≠ 0 by omega)
              have hxm2 := Int.emod_lt_of_pos (x * b) (show (0 : Int) < d by omega)
              have hdz : ((d : Int) == 0) = false := by simp; omega
              clear hin h0
              go_wp2_with (first | (at_lookup; refine wpList_lookup_own_ok_int _ rfl _ _ 102 rfl 2 2 .i64 lawK Tryz.underlying102 Tryz.underlying2 (zeroK _) w1.heap.size k _ rfl hown _ _ rfl HK.out ?_; intro c hat hwc; clear hat hwc) | (at_mapUpdate; refine wpList_mapUpdate_own _ rfl _ _ _ 102 rfl 2 2 lawK Tryz.underlying102 _ w1.heap.size k _ rfl hown (by unfold maxLen; omega) _ _ _ rfl rfl HK.out _ [] (plainElem_int Tryz.underlying2 (WalkArith.wf_i64 (by omega))) ?_; intro w2 hown2 hg2; have x2 := xF.grownApartF hg2 (fun e => by injection e with e; omega); clear cF fF zF; obtain ⟨cF2, fF2, zF2⟩ := x2.out))
              have B2 := bl_grown Bq hg2 (fun j hj => by injection hj with hj; omega)
              clear hg2
              go_roundw
              case rel => exact ⟨k + 1, _, _, by go_num, rfl, hxm1, hxm2, hk2, HX2, HRG2, HM2, hown2, x2, B2⟩
              case measure => simp only [intOf]; omega

set_option maxRecDepth 100000 in
set_option maxHeartbeats 3200000 in
theorem spec_DigitPeriod (n d b : Int) (w : World) :
    Calls Tryz.prog 29 #[.agg #[.int .i64 n, .int .i64 d], .int .i64 b] w fun e w' => e = .returned (.tuple #[.int .i64 (perF n d b).1, .int .i64 (perF n d b).2.1, .int .i64 (perF n d b).2.2]) ∧ Bl w w' := by
  cases e1 : okF n d with
  | false =>
    have HR := Lib.hid (per_bad (b := b) e1)
    have E1 := Lib.hid e1
    clear e1
    go_enter Tryz.func29, Tryz.ntmps29
    go_wp2_with fail
    refine (ok_eq E1.out _).mono ?_
    rintro e w1 ⟨rfl, hb1⟩
    have B1 : Bl w w1 := bl_call (bl_alloc (bl_refl _) _) hb1
    have xF_1 : Bx w1 (w.heap.size) #[.int .i64 n, .int .i64 d] := (Bx.new (b := w.heap.size) _ #[.int .i64 n, .int .i64 d] 45 (by first | rfl | simp)).below hb1
    obtain ⟨cF_1, fF_1, zF_1⟩ := xF_1.out
    go_wp2
    go_ret3
    exact ⟨ret_3 HR.out, B1⟩
  | true =>
    have hF := okF_iff.1 e1
    cases e2 : inB b 2 36 with
    | false =>
      have HR := Lib.hid (per_base e1 e2)
      have E1 := Lib.hid e1
      clear e1
      have E2 := Lib.hid e2
      clear e2
      go_enter Tryz.func29, Tryz.ntmps29
      go_wp2_with fail
      refine (ok_eq E1.out _).mono ?_
      rintro e w1 ⟨rfl, hb1⟩
      have B1 : Bl w w1 := bl_call (bl_alloc (bl_refl _) _) hb1
      have xF_1 : Bx w1 (w.heap.size) #[.int .i64 n, .int .i64 d] := (Bx.new (b := w.heap.size) _ #[.int .i64 n, .int .i64 d] 45 (by first | rfl | simp)).below hb1
      obtain ⟨cF_1, fF_1, zF_1⟩ := xF_1.out
      go_wp2_with fail
      refine (sbase_eq E2.out _).mono ?_
      rintro e w9 ⟨rfl, rfl⟩
      go_wp2
      go_ret3
      exact ⟨ret_3 HR.out, B1⟩
    | true =>
      have hb := inB_iff.1 e2
      by_cases h3 : 100000 < d
      ·
       have HR := Lib.hid (per_big e1 e2 h3)
       have E1 := Lib.hid e1
       clear e1
       have E2 := Lib.hid e2
       clear e2
       go_enter Tryz.func29, Tryz.ntmps29
       go_wp2_with fail
       refine (ok_eq E1.out _).mono ?_
       rintro e w1 ⟨rfl, hb1⟩
       have B1 : Bl w w1 := bl_call (bl_alloc (bl_refl _) _) hb1
       have xF_1 : Bx w1 (w.heap.size) #[.int .i64 n, .int .i64 d] := (Bx.new (b := w.heap.size) _ #[.int .i64 n, .int .i64 d] 45 (by first | rfl | simp)).below hb1
       obtain ⟨cF_1, fF_1, zF_1⟩ := xF_1.out
       go_wp2_with fail
       refine (sbase_eq E2.out _).mono ?_
       rintro e w9 ⟨rfl, rfl⟩
       go_wp2
       go_ret3
       exact ⟨ret_3 HR.out, B1⟩
      ·
        have h3' : d ≤ 100000 := by omega
        obtain ⟨⟨hd1, hd2⟩, hn, hg⟩ := hF
        obtain ⟨d, rfl⟩ := Int.eq_ofNat_of_zero_le (show 0 ≤ d by omega)
        obtain ⟨b, rfl⟩ := Int.eq_ofNat_of_zero_le (show 0 ≤ b by omega)
        have hd0 : 0 < d := by omega
        have hb0 : 2 ≤ b := by omega
        have hg1 : gcdI n d = 1 := hg
        clear hg
        have HR := Lib.hid (per_yes e1 e2 h3')
        have E1 := Lib.hid e1
        clear e1
        have E2 := Lib.hid e2
        clear e2
        clear hg1
        go_enter Tryz.func29, Tryz.ntmps29
        go_wp2_with fail
        refine (ok_eq E1.out _).mono ?_
        rintro e w1 ⟨rfl, hb1⟩
        have B1 : Bl w w1 := bl_call (bl_alloc (bl_refl _) _) hb1
        have xF_1 : Bx w1 (w.heap.size) #[.int .i64 n, .int .i64 ((d : Nat) : Int)] := (Bx.new (b := w.heap.size) _ #[.int .i64 n, .int .i64 ((d : Nat) : Int)] 45 (by first | rfl | simp)).below hb1
        obtain ⟨cF_1, fF_1, zF_1⟩ := xF_1.out
        go_wp2_with fail
        refine (sbase_eq E2.out _).mono ?_
        rintro e w9 ⟨rfl, rfl⟩
        go_wp2_with fail
        refine (lgcd_any _ _ _ (by omega) (by omega) (by omega)).mono ?_
        rintro e w9 ⟨rfl, rfl⟩
        go_wp2_with fail
        go_loopw [7, 8, 9] (fun s7 s8 s9 wr => ∃ (e k : Nat), s7 = .int .i64 e ∧ s8 = .int .i64 k ∧ s9 = .int .i64 (gcdI e b) ∧ k + e ≤ d ∧ 1 ≤ e ∧ Hid (Red d b k e) ∧ Bx wr w.heap.size #[.int .i64 n, .int .i64 d] ∧ wr = w1) (fun s7 _ _ _ => (intOf s7).toNat)
        case atStart => exact ⟨d, 0, rfl, rfl, rfl, by omega, by omega, Lib.hid (Red.start d b hd0), xF_1, rfl⟩
        case round =>
          obtain ⟨e, k, rfl, rfl, rfl, hek, he1, HE, _, rfl⟩ := hrel
          have hg0 := gcdI_pos (e : Int) b (by omega)
          have HGN := Lib.hid (show gcdI (e : Int) b = ((e.gcd b : Nat) : Int) from rfl)
          by_cases hgt : 1 < gcdI (e : Int) b
          · have hgz : (gcdI (e : Int) b == 0) = false := by simp; omega
            have HQ := Lib.hid (show (e : Int) / gcdI e b = ((e / e.gcd b : Nat) : Int) by rw [HGN.out]; rfl)
            have HRD := Lib.hid (HE.out.step (by have := HGN.out; omega))
            have hlt := Nat.div_lt_self (n := e) (k := e.gcd b) (by omega) (by have := HGN.out; omega)
            have hpos := HRD.out.1
            have q1 : 0 ≤ (e : Int) / gcdI e b ∧ (e : Int) / gcdI e b ≤ e := (by have := HQ.out; omega)
            go_wp2_with (go_at_call 84; refine (lgcd_any _ _ _ (by omega) (by omega) (by omega)).mono ?_; rintro e w' ⟨rfl, rfl⟩)
            go_roundw
            case rel => exact ⟨e / e.gcd b, k + 1, by rw [HQ.out], by go_num, by rw [HQ.out], by omega, hpos, HRD, xF_1, by first | rfl | trivial⟩
            case measure => simp only [intOf]; have := HQ.out; omega
          · have hg1 : e.gcd b = 1 := by have := HGN.out; omega
            by_cases h1 : e = 1
            · subst h1
              have HP := Lib.hid (perN_eq hd0 hb0 (per_zero HE.out))
              go_wp2
              go_ret3
              exact ⟨ret_3 (by rw [HR.out, HP.out]; rfl), B1⟩
            · have he2 : 1 < e := by omega
              have c1 : ((e : Int) == 1) = false := by simp; omega
              have cz : ((e : Int) == 0) = false := by simp; omega
              obtain ⟨q, q1, q2, q3⟩ := ord_ex (b := b) (e := e) he2 hb0 hg1
              have HQ3 := Lib.hid q3
              have HG1 := Lib.hid hg1
              have hbe1 := Int.emod_nonneg (b : Int) (show (e : Int) ≠ 0 by omega)
              have hbe2 := Int.emod_lt_of_pos (b : Int) (show (0 : Int) < e by omega)
              clear q3 hg1 h1
              go_wp2_with fail
              go_loopw [10, 11] (fun s10 s11 wr2 => ∃ (j : Nat) (x : Int), s11 = .int .i64 j ∧ s10 = .int .i64 x ∧ 0 ≤ x ∧ x < e ∧ 1 ≤ j ∧ j ≤ q ∧ Hid (x = ((b ^ j % e : Nat) : Int)) ∧ Hid (∀ i, 1 ≤ i → i < j → b ^ i % e ≠ 1) ∧ wr2 = wr) (fun _ s11 _ => q - (intOf s11).toNat)
              case atStart => exact ⟨1, _, rfl, rfl, hbe1, hbe2, Nat.le_refl _, q1, Lib.hid (by rw [Nat.pow_one]; rfl), Lib.hid (fun i h1 h2 => absurd h2 (by omega)), rfl⟩
              case round =>
                obtain ⟨j, x, rfl, rfl, hx0, hx1, hj1, hjq, HX, HA, rfl⟩ := hrel
                have hxb := mul_bd36 (x := x) (b := b) ⟨hx0, by omega⟩ (by omega)
                by_cases hx : x = 1
                · have HP := Lib.hid (perN_eq hd0 hb0 (per_ord HE.out hb0 he2 HG1.out hj1 (by have := HX.out; omega) HA.out))
                  have cx : (x != 1) = false := by simp [hx]
                  clear hx
                  go_wp2
                  go_ret3
                  exact ⟨ret_3 (by rw [HR.out, HP.out]), B1⟩
                · have cx : (x != 1) = true := by simp [hx]
                  have hlt : j < q := by
                    rcases Nat.lt_or_ge j q with c | c
                    · exact c
                    · obtain rfl : j = q := by omega
                      have := HX.out; have := HQ3.out; omega
                  have HX2 := Lib.hid (show x * b % e = ((b ^ (j + 1) % e : Nat) : Int) by rw [HX.out, ← Int.natCast_mul, ← Int.natCast_emod, Nat.mod_mul_mod, Nat.pow_succ])
                  have HA2 := Lib.hid (show ∀ i, 1 ≤ i → i < j + 1 → b ^ i % e ≠ 1 from fun i h1 h2 => by rcases Nat.lt_or_ge i j with c | c; exact HA.out i h1 c; obtain rfl : i = j := (by omega); intro h; exact hx (by rw [HX.out, h]; rfl))
                  have hxm1 := Int.emod_nonneg (x * b) (show (e : Int) ≠ 0 by omega)
                  have hxm2 := Int.emod_lt_of_pos (x * b) (show (0 : Int) < e by omega)
                  clear hx
                  go_wp2
                  go_roundw
                  case rel => exact ⟨j + 1, _, by go_num, rfl, hxm1, hxm2, by omega, by omega, HX2, HA2, by first | rfl | trivial⟩
                  case measure => simp only [intOf]; omega

end Go.Proofs.YtndblondleclpaaGreatDoor

/- FractionFromDigits: the program and the reference give the same. Each theorem names its conditions. -/
namespace Go.Proofs.YtndblondleclpaaGreatDoor
open Go.RowKit
set_option linter.unusedVariables false
set_option linter.unusedSimpArgs false

theorem mulb' {x y X Y : Int} (h1 : -X ≤ x ∧ x ≤ X) (h2 : 0 ≤ y ∧ y ≤ Y) : -(X * Y) ≤ x * y ∧ x * y ≤ X * Y := by
  have hX : 0 ≤ X := by omega
  have a1 := Int.mul_le_mul_of_nonneg_right h1.1 h2.1
  have a2 := Int.mul_le_mul_of_nonneg_right h1.2 h2.1
  have a3 := Int.mul_le_mul_of_nonneg_left h2.2 hX
  have e : -X * y = -(X * y) := Int.neg_mul _ _
  omega
theorem ret_fr3 {f : Int × Int × Int} {r : (Int × Int) × Int} (h : r = ((f.1, f.2.1), f.2.2)) : Ending.returned (.tuple #[.agg #[.int .i64 f.1, .int .i64 f.2.1], .int .i64 f.2.2]) = .returned (.tuple #[.agg #[.int .i64 r.1.1, .int .i64 r.1.2], .int .i64 r.2]) := by subst h; rfl
theorem ret_f2 {r : (Int × Int) × Int} {x y c : Int} (h : r = ((x, y), c)) : Ending.returned (.tuple #[.agg #[.int .i64 x, .int .i64 y], .int .i64 c]) = .returned (.tuple #[.agg #[.int .i64 r.1.1, .int .i64 r.1.2], .int .i64 r.2]) := by subst h; rfl
def fr3 (f : Int × Int × Int) : (Int × Int) × Int := ((f.1, f.2.1), f.2.2)
noncomputable def frDigF (b wh : Int) (xs ys : List Int) : (Int × Int) × Int :=
  if inB b 2 36 && inB wh (-1000000000) 1000000000 && digP b xs && digP b ys then
    (if b ^ xs.length ≤ 1000000000 ∧ b ^ ys.length ≤ 1000000000 ∧ b ^ xs.length * (b ^ ys.length - 1) ≤ 1000000000 then
      (if ys.length = 0 then fr3 (fullF (wh * b ^ xs.length + numF b xs) (b ^ xs.length)) else fr3 (fullF (wh * (b ^ xs.length * (b ^ ys.length - 1)) + (numF b xs * (b ^ ys.length - 1) + numF b ys)) (b ^ xs.length * (b ^ ys.length - 1))))
    else ((0, 0), 5))
  else ((0, 0), 2)
theorem quo_gt' {b o : Int} (hb : 1 ≤ b) : 1000000000 / b < o ↔ 1000000000 < o * b := by
  rw [Int.ediv_lt_iff_lt_mul (by omega)]
theorem val_eq {b p n : Int} {va : Value} {xs : List Int} (hp : b ^ xs.length = p) (hn : numF b xs = n) (h : p ≤ 1000000000) (w : World) (hb : 2 ≤ b ∧ b ≤ 36) (ha : Sl w va xs) (hl : xs.length ≤ 1048576) (hd : digP b xs = true) :
    Calls Tryz.prog 91 #[va, .int .i64 b] w fun e w' => e = .returned (.tuple #[.int .i64 n, .int .i64 p, .bool true]) ∧ Bl w w' := by
  have := val_any va xs w hb ha hl (digP_mem hd)
  rw [hp, hn, if_pos h] at this
  exact this
theorem val_no {b p : Int} {va : Value} {xs : List Int} (hp : b ^ xs.length = p) (h : 1000000000 < p) (w : World) (hb : 2 ≤ b ∧ b ≤ 36) (ha : Sl w va xs) (hl : xs.length ≤ 1048576) (hd : digP b xs = true) :
    Calls Tryz.prog 91 #[va, .int .i64 b] w fun e w' => e = .returned (.tuple #[.int .i64 0, .int .i64 0, .bool false]) ∧ Bl w w' := by
  have := val_any va xs w hb ha hl (digP_mem hd)
  rw [hp, if_neg (by omega)] at this
  exact this
theorem power_eq {b p : Int} {k : Nat} (hp : b ^ k = p) (h : p ≤ 1000000000) (w : World) (hb : 2 ≤ b ∧ b ≤ 36) (hk : k ≤ 1048576) :
    Calls Tryz.prog 87 #[.int .i64 b, .int .i64 k] w fun e w' => e = .returned (.tuple #[.int .i64 p, .bool true]) ∧ Bl w w' := by
  subst hp
  exact power_ok k w hb hk h
theorem power_ne {b p : Int} {k : Nat} (hp : b ^ k = p) (h : 1000000000 < p) (w : World) (hb : 2 ≤ b ∧ b ≤ 36) (hk : k ≤ 1048576) :
    Calls Tryz.prog 87 #[.int .i64 b, .int .i64 k] w fun e w' => e = .returned (.tuple #[.int .i64 0, .bool false]) ∧ Bl w w' := by
  subst hp
  exact power_no k w hb hk h
theorem num_eq {b p n : Int} {va : Value} {xs : List Int} (hp : b ^ xs.length = p) (hn : numF b xs = n) (h : p ≤ 1000000000) (w : World) (hb : 2 ≤ b ∧ b ≤ 36) (ha : Sl w va xs) (hl : xs.length ≤ 1048576) (hd : digP b xs = true) :
    Calls Tryz.prog 88 #[.int .i64 b, va] w fun e w' => e = .returned (.int .i64 n) ∧ Bl w w' := by
  subst hn
  exact numI_any va xs w hb ha hl (digP_mem hd) (by omega)
theorem numF_all {b : Int} {xs : List Int} (hb : 2 ≤ b) (h : digP b xs = true) : 0 ≤ numF b xs ∧ numF b xs ≤ b ^ xs.length - 1 := by
  have := numF_bd hb (digP_mem h) xs.length (Nat.le_refl _)
  rwa [List.take_length] at this

set_option maxRecDepth 100000 in
set_option maxHeartbeats 6400000 in
theorem impl_FractionFromDigits (b wh : Int) (va : Value) (xs : List Int) (vb : Value) (ys : List Int) (w : World) (ha : Sl w va xs) (lx : xs.length ≤ 1048576) (hb : Sl w vb ys) (ly : ys.length ≤ 1048576) :
    Calls Tryz.prog 31 #[.int .i64 b, .int .i64 wh, va, vb] w fun e w' => e = .returned (.tuple #[.agg #[.int .i64 (frDigF b wh xs ys).1.1, .int .i64 (frDigF b wh xs ys).1.2], .int .i64 (frDigF b wh xs ys).2]) ∧ Bl w w' := by
  obtain ⟨aa, ca, rfl, hca⟩ := ha.form'
  obtain ⟨ab, cb, rfl, hcb⟩ := hb.form'
  cases e1 : inB b 2 36 with
  | false =>
    have HR := Lib.hid (show frDigF b wh xs ys = ((0, 0), 2) by simp [frDigF, e1])
    have E1 := Lib.hid e1
    clear e1
    go_enter Tryz.func31, Tryz.ntmps31
    go_wp2_with fail
    refine (ibase_eq E1.out _).mono ?_
    rintro e w9 ⟨rfl, rfl⟩
    go_wp2
    refine bodyPost_ret (v := .tuple #[.agg #[.int .i64 0, .int .i64 0], .int .i64 2]) (by simp only [results, Tryz.results31]; go_simp) rfl ?_
    refine ⟨ret_f2 (by rw [HR.out]), ?_⟩
    repeat first | (with_reducible exact (bl_refl _)) | (with_reducible refine bl_alloc ?_ _) | (with_reducible refine bl_drew ?_) | (with_reducible refine bl_set ?_ (by first | exact Nat.le_refl _ | (simp; done) | (simp; omega)) _)
  | true =>
    cases e2 : inB wh (-1000000000) 1000000000 with
    | false =>
      have HR := Lib.hid (show frDigF b wh xs ys = ((0, 0), 2) by simp [frDigF, e1, e2])
      have E1 := Lib.hid e1
      clear e1
      have E2 := Lib.hid e2
      clear e2
      go_enter Tryz.func31, Tryz.ntmps31
      go_wp2_with fail
      refine (ibase_eq E1.out _).mono ?_
      rintro e w9 ⟨rfl, rfl⟩
      go_wp2_with fail
      refine (inB_eq E2.out _).mono ?_
      rintro e w9 ⟨rfl, rfl⟩
      go_wp2
      refine bodyPost_ret (v := .tuple #[.agg #[.int .i64 0, .int .i64 0], .int .i64 2]) (by simp only [results, Tryz.results31]; go_simp) rfl ?_
      refine ⟨ret_f2 (by rw [HR.out]), ?_⟩
      repeat first | (with_reducible exact (bl_refl _)) | (with_reducible refine bl_alloc ?_ _) | (with_reducible refine bl_drew ?_) | (with_reducible refine bl_set ?_ (by first | exact Nat.le_refl _ | (simp; done) | (simp; omega)) _)
    | true =>
      cases e3 : digP b xs with
      | false =>
        have HR := Lib.hid (show frDigF b wh xs ys = ((0, 0), 2) by simp [frDigF, e1, e2, e3])
        have hbb := inB_iff.1 e1
        have E1 := Lib.hid e1
        clear e1
        have E2 := Lib.hid e2
        clear e2
        have E3 := Lib.hid e3
        clear e3
        go_enter Tryz.func31, Tryz.ntmps31
        go_wp2_with fail
        refine (ibase_eq E1.out _).mono ?_
        rintro e w9 ⟨rfl, rfl⟩
        go_wp2_with fail
        refine (inB_eq E2.out _).mono ?_
        rintro e w9 ⟨rfl, rfl⟩
        go_wp2_with fail
        refine (areD_eq E3.out _ hbb (ha.below (bl_alloc (bl_refl _) _)) lx).mono ?_
        rintro e w1 ⟨rfl, hb1⟩
        have B1 : Bl w w1 := bl_call (bl_alloc (bl_refl _) _) hb1
        have xR_1 : Bx w1 (w.heap.size) #[.int .i64 0, .int .i64 0] := (Bx.new (b := w.heap.size) _ #[.int .i64 0, .int .i64 0] 45 (by first | rfl | simp)).below hb1
        obtain ⟨cR_1, fR_1, zR_1⟩ := xR_1.out
        go_wp2
        refine bodyPost_ret (v := .tuple #[.agg #[.int .i64 0, .int .i64 0], .int .i64 2]) (by simp only [results, Tryz.results31]; go_simp) rfl ?_
        refine ⟨ret_f2 (by rw [HR.out]), ?_⟩
        repeat first | (with_reducible exact B1) | (with_reducible refine bl_alloc ?_ _) | (with_reducible refine bl_drew ?_) | (with_reducible refine bl_set ?_ (by first | exact Nat.le_refl _ | (simp; done) | (simp; omega)) _)
      | true =>
        cases e4 : digP b ys with
        | false =>
          have HR := Lib.hid (show frDigF b wh xs ys = ((0, 0), 2) by simp [frDigF, e1, e2, e3, e4])
          have hbb := inB_iff.1 e1
          have E1 := Lib.hid e1
          clear e1
          have E2 := Lib.hid e2
          clear e2
          have E3 := Lib.hid e3
          clear e3
          have E4 := Lib.hid e4
          clear e4
          go_enter Tryz.func31, Tryz.ntmps31
          go_wp2_with fail
          refine (ibase_eq E1.out _).mono ?_
          rintro e w9 ⟨rfl, rfl⟩
          go_wp2_with fail
          refine (inB_eq E2.out _).mono ?_
          rintro e w9 ⟨rfl, rfl⟩
          go_wp2_with fail
          refine (areD_eq E3.out _ hbb (ha.below (bl_alloc (bl_refl _) _)) lx).mono ?_
          rintro e w1 ⟨rfl, hb1⟩
          have B1 : Bl w w1 := bl_call (bl_alloc (bl_refl _) _) hb1
          have xR_1 : Bx w1 (w.heap.size) #[.int .i64 0, .int .i64 0] := (Bx.new (b := w.heap.size) _ #[.int .i64 0, .int .i64 0] 45 (by first | rfl | simp)).below hb1
          obtain ⟨cR_1, fR_1, zR_1⟩ := xR_1.out
          go_wp2_with fail
          refine (areD_eq E4.out _ hbb (hb.below B1) ly).mono ?_
          rintro e w2 ⟨rfl, hb2⟩
          have B2 : Bl w w2 := bl_call B1 hb2
          have xR_2 : Bx w2 (w.heap.size) #[.int .i64 0, .int .i64 0] := xR_1.below hb2
          clear cR_1 fR_1 zR_1
          obtain ⟨cR_2, fR_2, zR_2⟩ := xR_2.out
          go_wp2
          refine bodyPost_ret (v := .tuple #[.agg #[.int .i64 0, .int .i64 0], .int .i64 2]) (by simp only [results, Tryz.results31]; go_simp) rfl ?_
          refine ⟨ret_f2 (by rw [HR.out]), ?_⟩
          repeat first | (with_reducible exact B2) | (with_reducible refine bl_alloc ?_ _) | (with_reducible refine bl_drew ?_) | (with_reducible refine bl_set ?_ (by first | exact Nat.le_refl _ | (simp; done) | (simp; omega)) _)
        | true =>
          obtain ⟨p, hp⟩ : ∃ p, b ^ xs.length = p := ⟨_, rfl⟩
          obtain ⟨r, hr⟩ : ∃ r, b ^ ys.length = r := ⟨_, rfl⟩
          obtain ⟨u, hu⟩ : ∃ u, numF b xs = u := ⟨_, rfl⟩
          obtain ⟨v, hv⟩ : ∃ v, numF b ys = v := ⟨_, rfl⟩
          have HR : frDigF b wh xs ys = (if p ≤ 1000000000 ∧ r ≤ 1000000000 ∧ p * (r - 1) ≤ 1000000000 then (if ys.length = 0 then fr3 (fullF (wh * p + u) p) else fr3 (fullF (wh * (p * (r - 1)) + (u * (r - 1) + v)) (p * (r - 1)))) else ((0, 0), 5)) := by
            rw [frDigF, e1, e2, e3, e4, hp, hr, hu, hv]
            rfl
          have HR := Lib.hid HR
          have hbb := inB_iff.1 e1
          have hwh := inB_iff.1 e2
          have p1 := pow_pos' hbb.1 xs.length
          have r1 := pow_pos' hbb.1 ys.length
          have u1 := numF_all hbb.1 e3
          have v1 := numF_all hbb.1 e4
          rw [hp] at p1
          rw [hr] at r1
          rw [hp, hu] at u1
          rw [hr, hv] at v1
          have r2 : 0 < ys.length → 2 ≤ r := fun h => by have q := pow_le hbb.1 (show 1 ≤ ys.length from h); have q1 : b ^ 1 = b := (by rw [show (1 : Nat) = 0 + 1 from rfl, Int.pow_succ]; simp); omega
          have r0 : ys.length = 0 → r = 1 := fun h => by rw [← hr, h]; simp
          have R2 := Lib.hid r2
          have R0 := Lib.hid r0
          clear r2 r0
          have Hp := Lib.hid hp
          clear hp
          have Hr := Lib.hid hr
          clear hr
          have Hu := Lib.hid hu
          clear hu
          have Hv := Lib.hid hv
          clear hv
          have E1 := Lib.hid e1
          clear e1
          have E2 := Lib.hid e2
          clear e2
          have E3 := Lib.hid e3
          clear e3
          have E4 := Lib.hid e4
          clear e4
          go_enter Tryz.func31, Tryz.ntmps31
          go_wp2_with fail
          refine (ibase_eq E1.out _).mono ?_
          rintro e w9 ⟨rfl, rfl⟩
          go_wp2_with fail
          refine (inB_eq E2.out _).mono ?_
          rintro e w9 ⟨rfl, rfl⟩
          go_wp2_with fail
          refine (areD_eq E3.out _ hbb (ha.below (bl_alloc (bl_refl _) _)) lx).mono ?_
          rintro e w1 ⟨rfl, hb1⟩
          have B1 : Bl w w1 := bl_call (bl_alloc (bl_refl _) _) hb1
          have xR_1 : Bx w1 (w.heap.size) #[.int .i64 0, .int .i64 0] := (Bx.new (b := w.heap.size) _ #[.int .i64 0, .int .i64 0] 45 (by first | rfl | simp)).below hb1
          obtain ⟨cR_1, fR_1, zR_1⟩ := xR_1.out
          go_wp2_with fail
          refine (areD_eq E4.out _ hbb (hb.below B1) ly).mono ?_
          rintro e w2 ⟨rfl, hb2⟩
          have B2 : Bl w w2 := bl_call B1 hb2
          have xR_2 : Bx w2 (w.heap.size) #[.int .i64 0, .int .i64 0] := xR_1.below hb2
          clear cR_1 fR_1 zR_1
          obtain ⟨cR_2, fR_2, zR_2⟩ := xR_2.out
          rcases Int.lt_or_le 1000000000 p with hq | hq
          ·
            have HQ := Lib.hid hq
            go_wp2_with fail
            refine (power_ne Hp.out (by omega) _ hbb (by omega)).mono ?_
            rintro e w3 ⟨rfl, hb3⟩
            have B3 : Bl w w3 := bl_call B2 hb3
            have xR_3 : Bx w3 (w.heap.size) #[.int .i64 0, .int .i64 0] := xR_2.below hb3
            clear cR_2 fR_2 zR_2
            obtain ⟨cR_3, fR_3, zR_3⟩ := xR_3.out
            rcases Int.lt_or_le 1000000000 r with hq2 | hq2
            ·
              go_wp2_with fail
              refine (power_ne Hr.out (by omega) _ hbb (by omega)).mono ?_
              rintro e w4 ⟨rfl, hb4⟩
              have B4 : Bl w w4 := bl_call B3 hb4
              have xR_4 : Bx w4 (w.heap.size) #[.int .i64 0, .int .i64 0] := xR_3.below hb4
              clear cR_3 fR_3 zR_3
              obtain ⟨cR_4, fR_4, zR_4⟩ := xR_4.out
              go_wp2
              refine bodyPost_ret (v := .tuple #[.agg #[.int .i64 0, .int .i64 0], .int .i64 5]) (by simp only [results, Tryz.results31]; go_simp) rfl ?_
              refine ⟨ret_f2 (by rw [HR.out, if_neg (by have q := HQ.out; omega)]), ?_⟩
              repeat first | (with_reducible exact B4) | (with_reducible refine bl_alloc ?_ _) | (with_reducible refine bl_drew ?_) | (with_reducible refine bl_set ?_ (by first | exact Nat.le_refl _ | (simp; done) | (simp; omega)) _)
            ·
              go_wp2_with fail
              refine (power_eq Hr.out (by omega) _ hbb (by omega)).mono ?_
              rintro e w4 ⟨rfl, hb4⟩
              have B4 : Bl w w4 := bl_call B3 hb4
              have xR_4 : Bx w4 (w.heap.size) #[.int .i64 0, .int .i64 0] := xR_3.below hb4
              clear cR_3 fR_3 zR_3
              obtain ⟨cR_4, fR_4, zR_4⟩ := xR_4.out
              go_wp2
              refine bodyPost_ret (v := .tuple #[.agg #[.int .i64 0, .int .i64 0], .int .i64 5]) (by simp only [results, Tryz.results31]; go_simp) rfl ?_
              refine ⟨ret_f2 (by rw [HR.out, if_neg (by have q := HQ.out; omega)]), ?_⟩
              repeat first | (with_reducible exact B4) | (with_reducible refine bl_alloc ?_ _) | (with_reducible refine bl_drew ?_) | (with_reducible refine bl_set ?_ (by first | exact Nat.le_refl _ | (simp; done) | (simp; omega)) _)
          ·
            go_wp2_with fail
            refine (power_eq Hp.out (by omega) _ hbb (by omega)).mono ?_
            rintro e w3 ⟨rfl, hb3⟩
            have B3 : Bl w w3 := bl_call B2 hb3
            have xR_3 : Bx w3 (w.heap.size) #[.int .i64 0, .int .i64 0] := xR_2.below hb3
            clear cR_2 fR_2 zR_2
            obtain ⟨cR_3, fR_3, zR_3⟩ := xR_3.out
            rcases Int.lt_or_le 1000000000 r with hq2 | hq2
            ·
              have HQ := Lib.hid hq2
              go_wp2_with fail
              refine (power_ne Hr.out (by omega) _ hbb (by omega)).mono ?_
              rintro e w4 ⟨rfl, hb4⟩
              have B4 : Bl w w4 := bl_call B3 hb4
              have xR_4 : Bx w4 (w.heap.size) #[.int .i64 0, .int .i64 0] := xR_3.below hb4
              clear cR_3 fR_3 zR_3
              obtain ⟨cR_4, fR_4, zR_4⟩ := xR_4.out
              go_wp2
              refine bodyPost_ret (v := .tuple #[.agg #[.int .i64 0, .int .i64 0], .int .i64 5]) (by simp only [results, Tryz.results31]; go_simp) rfl ?_
              refine ⟨ret_f2 (by rw [HR.out, if_neg (by have q := HQ.out; omega)]), ?_⟩
              repeat first | (with_reducible exact B4) | (with_reducible refine bl_alloc ?_ _) | (with_reducible refine bl_drew ?_) | (with_reducible refine bl_set ?_ (by first | exact Nat.le_refl _ | (simp; done) | (simp; omega)) _)
            ·
              go_wp2_with fail
              refine (power_eq Hr.out (by omega) _ hbb (by omega)).mono ?_
              rintro e w4 ⟨rfl, hb4⟩
              have B4 : Bl w w4 := bl_call B3 hb4
              have xR_4 : Bx w4 (w.heap.size) #[.int .i64 0, .int .i64 0] := xR_3.below hb4
              clear cR_3 fR_3 zR_3
              obtain ⟨cR_4, fR_4, zR_4⟩ := xR_4.out
              have m0 := mulb' (show -1000000000 ≤ p ∧ p ≤ 1000000000 by omega) (show 0 ≤ r - 1 ∧ r - 1 ≤ 1000000000 by omega)
              have qg := fun h => quo_gt' (b := r - 1) (o := p) h
              have QG := Lib.hid qg
              clear qg
              rcases Nat.eq_zero_or_pos ys.length with hy | hy
              ·
                obtain rfl := R0.out hy
                have HY := Lib.hid hy
                have hz : p * (1 - 1) = 0 := by simp
                have HC := Lib.hid (show frDigF b wh xs ys = fr3 (fullF (wh * p + u) p) by rw [HR.out, if_pos ⟨by omega, by omega, by rw [hz]; omega⟩, if_pos hy])
                have cz : decide (0 < ys.length) = false := by simp [hy]
                clear m0
                have m1 := mulb' hwh (show 0 ≤ p ∧ p ≤ 1000000000 by omega)
                have cz2 : decide ((0 : Int) < (ys.length : Int)) = false := decide_eq_false (by omega)
                clear hy
                go_wp2_with fail
                refine (num_eq Hp.out Hu.out (by omega) _ hbb (ha.below B4) lx E3.out).mono ?_
                rintro e w5 ⟨rfl, hb5⟩
                have B5 : Bl w w5 := bl_call B4 hb5
                have xR_5 : Bx w5 (w.heap.size) #[.int .i64 0, .int .i64 0] := xR_4.below hb5
                clear cR_4 fR_4 zR_4
                obtain ⟨cR_5, fR_5, zR_5⟩ := xR_5.out
                go_wp2_with fail
                refine (plain_any (wh * p + u) p _ (by omega) (by omega) (by omega) (by omega) (by omega)).mono ?_
                rintro e w6 ⟨rfl, hb6⟩
                have B6 : Bl w w6 := bl_call B5 hb6
                have xR_6 : Bx w6 (w.heap.size) #[.int .i64 0, .int .i64 0] := xR_5.below hb6
                clear cR_5 fR_5 zR_5
                obtain ⟨cR_6, fR_6, zR_6⟩ := xR_6.out
                go_wp2
                refine bodyPost_ret (v := .tuple #[.agg #[.int .i64 (fullF (wh * p + u) p).1, .int .i64 (fullF (wh * p + u) p).2.1], .int .i64 (fullF (wh * p + u) p).2.2]) (by simp only [results, Tryz.results31]; go_simp) rfl ?_
                refine ⟨ret_fr3 (by rw [HC.out]; rfl), ?_⟩
                repeat first | (with_reducible exact B6) | (with_reducible refine bl_alloc ?_ _) | (with_reducible refine bl_drew ?_) | (with_reducible refine bl_set ?_ (by first | exact Nat.le_refl _ | (simp; done) | (simp; omega)) _)
              ·
                have hr2 := R2.out hy
                have hy1 : (0 : Int) < (ys.length : Int) := by omega
                rcases Int.lt_or_le 1000000000 (p * (r - 1)) with hq3 | hq3
                ·
                  have HQ := Lib.hid hq3
                  go_wp2
                  refine bodyPost_ret (v := .tuple #[.agg #[.int .i64 0, .int .i64 0], .int .i64 5]) (by simp only [results, Tryz.results31]; go_simp) rfl ?_
                  refine ⟨ret_f2 (by rw [HR.out, if_neg (by have q := HQ.out; omega)]), ?_⟩
                  repeat first | (with_reducible exact B4) | (with_reducible refine bl_alloc ?_ _) | (with_reducible refine bl_drew ?_) | (with_reducible refine bl_set ?_ (by first | exact Nat.le_refl _ | (simp; done) | (simp; omega)) _)
                ·
                  have HC := Lib.hid (show frDigF b wh xs ys = fr3 (fullF (wh * (p * (r - 1)) + (u * (r - 1) + v)) (p * (r - 1))) by rw [HR.out, if_pos (by omega), if_neg (by omega)])
                  have m2 := mulb' (show -1000000000 ≤ u ∧ u ≤ 1000000000 by omega) (show 0 ≤ r - 1 ∧ r - 1 ≤ 1000000000 by omega)
                  have m3 := Int.mul_le_mul_of_nonneg_right (show 1 ≤ p by omega) (show 0 ≤ r - 1 by omega)
                  have m4 := mulb' hwh (show 0 ≤ p * (r - 1) ∧ p * (r - 1) ≤ 1000000000 by omega)
                  have m5 := Int.mul_le_mul_of_nonneg_right (show u ≤ p by omega) (show 0 ≤ r - 1 by omega)
                  have m6 := Int.mul_nonneg (show 0 ≤ u by omega) (show 0 ≤ r - 1 by omega)
                  go_wp2_with fail
                  refine (num_eq Hp.out Hu.out (by omega) _ hbb (ha.below B4) lx E3.out).mono ?_
                  rintro e w5 ⟨rfl, hb5⟩
                  have B5 : Bl w w5 := bl_call B4 hb5
                  have xR_5 : Bx w5 (w.heap.size) #[.int .i64 0, .int .i64 0] := xR_4.below hb5
                  clear cR_4 fR_4 zR_4
                  obtain ⟨cR_5, fR_5, zR_5⟩ := xR_5.out
                  go_wp2_with fail
                  refine (num_eq Hr.out Hv.out (by omega) _ hbb (hb.below B5) ly E4.out).mono ?_
                  rintro e w6 ⟨rfl, hb6⟩
                  have B6 : Bl w w6 := bl_call B5 hb6
                  have xR_6 : Bx w6 (w.heap.size) #[.int .i64 0, .int .i64 0] := xR_5.below hb6
                  clear cR_5 fR_5 zR_5
                  obtain ⟨cR_6, fR_6, zR_6⟩ := xR_6.out
                  go_wp2_with fail
                  refine (plain_any (wh * (p * (r - 1)) + (u * (r - 1) + v)) (p * (r - 1)) _ (by omega) (by omega) (by omega) (by omega) (by omega)).mono ?_
                  rintro e w7 ⟨rfl, hb7⟩
                  have B7 : Bl w w7 := bl_call B6 hb7
                  have xR_7 : Bx w7 (w.heap.size) #[.int .i64 0, .int .i64 0] := xR_6.below hb7
                  clear cR_6 fR_6 zR_6
                  obtain ⟨cR_7, fR_7, zR_7⟩ := xR_7.out
                  go_wp2
                  refine bodyPost_ret (v := .tuple #[.agg #[.int .i64 (fullF (wh * (p * (r - 1)) + (u * (r - 1) + v)) (p * (r - 1))).1, .int .i64 (fullF (wh * (p * (r - 1)) + (u * (r - 1) + v)) (p * (r - 1))).2.1], .int .i64 (fullF (wh * (p * (r - 1)) + (u * (r - 1) + v)) (p * (r - 1))).2.2]) (by simp only [results, Tryz.results31]; go_simp) rfl ?_
                  refine ⟨ret_fr3 (by rw [HC.out]; rfl), ?_⟩
                  repeat first | (with_reducible exact B7) | (with_reducible refine bl_alloc ?_ _) | (with_reducible refine bl_drew ?_) | (with_reducible refine bl_set ?_ (by first | exact Nat.le_refl _ | (simp; done) | (simp; omega)) _)

set_option maxRecDepth 100000 in
set_option maxHeartbeats 6400000 in
theorem spec_FractionFromDigits (b wh : Int) (va : Value) (xs : List Int) (vb : Value) (ys : List Int) (w : World) (ha : Sl w va xs) (lx : xs.length ≤ 1048576) (hb : Sl w vb ys) (ly : ys.length ≤ 1048576) :
    Calls Tryz.prog 32 #[.int .i64 b, .int .i64 wh, va, vb] w fun e w' => e = .returned (.tuple #[.agg #[.int .i64 (frDigF b wh xs ys).1.1, .int .i64 (frDigF b wh xs ys).1.2], .int .i64 (frDigF b wh xs ys).2]) ∧ Bl w w' := by
  obtain ⟨aa, ca, rfl, hca⟩ := ha.form'
  obtain ⟨ab, cb, rfl, hcb⟩ := hb.form'
  cases e1 : inB b 2 36 with
  | false =>
    have HR := Lib.hid (show frDigF b wh xs ys = ((0, 0), 2) by simp [frDigF, e1])
    have E1 := Lib.hid e1
    clear e1
    go_enter Tryz.func32, Tryz.ntmps32
    go_wp2_with fail
    refine (sbase_eq E1.out _).mono ?_
    rintro e w9 ⟨rfl, rfl⟩
    go_wp2
    refine bodyPost_ret (v := .tuple #[.agg #[.int .i64 0, .int .i64 0], .int .i64 2]) (by simp only [results, Tryz.results32]; go_simp) rfl ?_
    refine ⟨ret_f2 (by rw [HR.out]), ?_⟩
    repeat first | (with_reducible exact (bl_refl _)) | (with_reducible refine bl_alloc ?_ _) | (with_reducible refine bl_drew ?_) | (with_reducible refine bl_set ?_ (by first | exact Nat.le_refl _ | (simp; done) | (simp; omega)) _)
  | true =>
    cases e2 : inB wh (-1000000000) 1000000000 with
    | false =>
      have HR := Lib.hid (show frDigF b wh xs ys = ((0, 0), 2) by simp [frDigF, e1, e2])
      have E1 := Lib.hid e1
      clear e1
      have E2 := Lib.hid e2
      clear e2
      go_enter Tryz.func32, Tryz.ntmps32
      go_wp2_with fail
      refine (sbase_eq E1.out _).mono ?_
      rintro e w9 ⟨rfl, rfl⟩
      go_wp2_with fail
      refine (in_eq' E2.out _).mono ?_
      rintro e w9 ⟨rfl, rfl⟩
      go_wp2
      refine bodyPost_ret (v := .tuple #[.agg #[.int .i64 0, .int .i64 0], .int .i64 2]) (by simp only [results, Tryz.results32]; go_simp) rfl ?_
      refine ⟨ret_f2 (by rw [HR.out]), ?_⟩
      repeat first | (with_reducible exact (bl_refl _)) | (with_reducible refine bl_alloc ?_ _) | (with_reducible refine bl_drew ?_) | (with_reducible refine bl_set ?_ (by first | exact Nat.le_refl _ | (simp; done) | (simp; omega)) _)
    | true =>
      cases e3 : digP b xs with
      | false =>
        have HR := Lib.hid (show frDigF b wh xs ys = ((0, 0), 2) by simp [frDigF, e1, e2, e3])
        have hbb := inB_iff.1 e1
        have E1 := Lib.hid e1
        clear e1
        have E2 := Lib.hid e2
        clear e2
        have E3 := Lib.hid e3
        clear e3
        go_enter Tryz.func32, Tryz.ntmps32
        go_wp2_with fail
        refine (sbase_eq E1.out _).mono ?_
        rintro e w9 ⟨rfl, rfl⟩
        go_wp2_with fail
        refine (in_eq' E2.out _).mono ?_
        rintro e w9 ⟨rfl, rfl⟩
        go_wp2_with fail
        refine (sdig_eq E3.out _ hbb (ha.below (bl_alloc (bl_refl _) _)) lx).mono ?_
        rintro e w1 ⟨rfl, hb1⟩
        have B1 : Bl w w1 := bl_call (bl_alloc (bl_refl _) _) hb1
        have xR_1 : Bx w1 (w.heap.size) #[.int .i64 0, .int .i64 0] := (Bx.new (b := w.heap.size) _ #[.int .i64 0, .int .i64 0] 45 (by first | rfl | simp)).below hb1
        obtain ⟨cR_1, fR_1, zR_1⟩ := xR_1.out
        go_wp2
        refine bodyPost_ret (v := .tuple #[.agg #[.int .i64 0, .int .i64 0], .int .i64 2]) (by simp only [results, Tryz.results32]; go_simp) rfl ?_
        refine ⟨ret_f2 (by rw [HR.out]), ?_⟩
        repeat first | (with_reducible exact B1) | (with_reducible refine bl_alloc ?_ _) | (with_reducible refine bl_drew ?_) | (with_reducible refine bl_set ?_ (by first | exact Nat.le_refl _ | (simp; done) | (simp; omega)) _)
      | true =>
        cases e4 : digP b ys with
        | false =>
          have HR := Lib.hid (show frDigF b wh xs ys = ((0, 0), 2) by simp [frDigF, e1, e2, e3, e4])
          have hbb := inB_iff.1 e1
          have E1 := Lib.hid e1
          clear e1
          have E2 := Lib.hid e2
          clear e2
          have E3 := Lib.hid e3
          clear e3
          have E4 := Lib.hid e4
          clear e4
          go_enter Tryz.func32, Tryz.ntmps32
          go_wp2_with fail
          refine (sbase_eq E1.out _).mono ?_
          rintro e w9 ⟨rfl, rfl⟩
          go_wp2_with fail
          refine (in_eq' E2.out _).mono ?_
          rintro e w9 ⟨rfl, rfl⟩
          go_wp2_with fail
          refine (sdig_eq E3.out _ hbb (ha.below (bl_alloc (bl_refl _) _)) lx).mono ?_
          rintro e w1 ⟨rfl, hb1⟩
          have B1 : Bl w w1 := bl_call (bl_alloc (bl_refl _) _) hb1
          have xR_1 : Bx w1 (w.heap.size) #[.int .i64 0, .int .i64 0] := (Bx.new (b := w.heap.size) _ #[.int .i64 0, .int .i64 0] 45 (by first | rfl | simp)).below hb1
          obtain ⟨cR_1, fR_1, zR_1⟩ := xR_1.out
          go_wp2_with fail
          refine (sdig_eq E4.out _ hbb (hb.below B1) ly).mono ?_
          rintro e w2 ⟨rfl, hb2⟩
          have B2 : Bl w w2 := bl_call B1 hb2
          have xR_2 : Bx w2 (w.heap.size) #[.int .i64 0, .int .i64 0] := xR_1.below hb2
          clear cR_1 fR_1 zR_1
          obtain ⟨cR_2, fR_2, zR_2⟩ := xR_2.out
          go_wp2
          refine bodyPost_ret (v := .tuple #[.agg #[.int .i64 0, .int .i64 0], .int .i64 2]) (by simp only [results, Tryz.results32]; go_simp) rfl ?_
          refine ⟨ret_f2 (by rw [HR.out]), ?_⟩
          repeat first | (with_reducible exact B2) | (with_reducible refine bl_alloc ?_ _) | (with_reducible refine bl_drew ?_) | (with_reducible refine bl_set ?_ (by first | exact Nat.le_refl _ | (simp; done) | (simp; omega)) _)
        | true =>
          obtain ⟨p, hp⟩ : ∃ p, b ^ xs.length = p := ⟨_, rfl⟩
          obtain ⟨r, hr⟩ : ∃ r, b ^ ys.length = r := ⟨_, rfl⟩
          obtain ⟨u, hu⟩ : ∃ u, numF b xs = u := ⟨_, rfl⟩
          obtain ⟨v, hv⟩ : ∃ v, numF b ys = v := ⟨_, rfl⟩
          have HR : frDigF b wh xs ys = (if p ≤ 1000000000 ∧ r ≤ 1000000000 ∧ p * (r - 1) ≤ 1000000000 then (if ys.length = 0 then fr3 (fullF (wh * p + u) p) else fr3 (fullF (wh * (p * (r - 1)) + (u * (r - 1) + v)) (p * (r - 1)))) else ((0, 0), 5)) := by
            rw [frDigF, e1, e2, e3, e4, hp, hr, hu, hv]
            rfl
          have HR := Lib.hid HR
          have hbb := inB_iff.1 e1
          have hwh := inB_iff.1 e2
          have p1 := pow_pos' hbb.1 xs.length
          have r1 := pow_pos' hbb.1 ys.length
          have u1 := numF_all hbb.1 e3
          have v1 := numF_all hbb.1 e4
          rw [hp] at p1
          rw [hr] at r1
          rw [hp, hu] at u1
          rw [hr, hv] at v1
          have r2 : 0 < ys.length → 2 ≤ r := fun h => by have q := pow_le hbb.1 (show 1 ≤ ys.length from h); have q1 : b ^ 1 = b := (by rw [show (1 : Nat) = 0 + 1 from rfl, Int.pow_succ]; simp); omega
          have r0 : ys.length = 0 → r = 1 := fun h => by rw [← hr, h]; simp
          have R2 := Lib.hid r2
          have R0 := Lib.hid r0
          clear r2 r0
          have Hp := Lib.hid hp
          clear hp
          have Hr := Lib.hid hr
          clear hr
          have Hu := Lib.hid hu
          clear hu
          have Hv := Lib.hid hv
          clear hv
          have E1 := Lib.hid e1
          clear e1
          have E2 := Lib.hid e2
          clear e2
          have E3 := Lib.hid e3
          clear e3
          have E4 := Lib.hid e4
          clear e4
          go_enter Tryz.func32, Tryz.ntmps32
          go_wp2_with fail
          refine (sbase_eq E1.out _).mono ?_
          rintro e w9 ⟨rfl, rfl⟩
          go_wp2_with fail
          refine (in_eq' E2.out _).mono ?_
          rintro e w9 ⟨rfl, rfl⟩
          go_wp2_with fail
          refine (sdig_eq E3.out _ hbb (ha.below (bl_alloc (bl_refl _) _)) lx).mono ?_
          rintro e w1 ⟨rfl, hb1⟩
          have B1 : Bl w w1 := bl_call (bl_alloc (bl_refl _) _) hb1
          have xR_1 : Bx w1 (w.heap.size) #[.int .i64 0, .int .i64 0] := (Bx.new (b := w.heap.size) _ #[.int .i64 0, .int .i64 0] 45 (by first | rfl | simp)).below hb1
          obtain ⟨cR_1, fR_1, zR_1⟩ := xR_1.out
          go_wp2_with fail
          refine (sdig_eq E4.out _ hbb (hb.below B1) ly).mono ?_
          rintro e w2 ⟨rfl, hb2⟩
          have B2 : Bl w w2 := bl_call B1 hb2
          have xR_2 : Bx w2 (w.heap.size) #[.int .i64 0, .int .i64 0] := xR_1.below hb2
          clear cR_1 fR_1 zR_1
          obtain ⟨cR_2, fR_2, zR_2⟩ := xR_2.out
          rcases Int.lt_or_le 1000000000 p with hq | hq
          ·
            have HQ := Lib.hid hq
            go_wp2_with fail
            refine (val_no Hp.out (by omega) _ hbb (ha.below B2) lx E3.out).mono ?_
            rintro e w3 ⟨rfl, hb3⟩
            have B3 : Bl w w3 := bl_call B2 hb3
            have xR_3 : Bx w3 (w.heap.size) #[.int .i64 0, .int .i64 0] := xR_2.below hb3
            clear cR_2 fR_2 zR_2
            obtain ⟨cR_3, fR_3, zR_3⟩ := xR_3.out
            rcases Int.lt_or_le 1000000000 r with hq2 | hq2
            ·
              go_wp2_with fail
              refine (val_no Hr.out (by omega) _ hbb (hb.below B3) ly E4.out).mono ?_
              rintro e w4 ⟨rfl, hb4⟩
              have B4 : Bl w w4 := bl_call B3 hb4
              have xR_4 : Bx w4 (w.heap.size) #[.int .i64 0, .int .i64 0] := xR_3.below hb4
              clear cR_3 fR_3 zR_3
              obtain ⟨cR_4, fR_4, zR_4⟩ := xR_4.out
              go_wp2
              refine bodyPost_ret (v := .tuple #[.agg #[.int .i64 0, .int .i64 0], .int .i64 5]) (by simp only [results, Tryz.results32]; go_simp) rfl ?_
              refine ⟨ret_f2 (by rw [HR.out, if_neg (by have q := HQ.out; omega)]), ?_⟩
              repeat first | (with_reducible exact B4) | (with_reducible refine bl_alloc ?_ _) | (with_reducible refine bl_drew ?_) | (with_reducible refine bl_set ?_ (by first | exact Nat.le_refl _ | (simp; done) | (simp; omega)) _)
            ·
              go_wp2_with fail
              refine (val_eq Hr.out Hv.out (by omega) _ hbb (hb.below B3) ly E4.out).mono ?_
              rintro e w4 ⟨rfl, hb4⟩
              have B4 : Bl w w4 := bl_call B3 hb4
              have xR_4 : Bx w4 (w.heap.size) #[.int .i64 0, .int .i64 0] := xR_3.below hb4
              clear cR_3 fR_3 zR_3
              obtain ⟨cR_4, fR_4, zR_4⟩ := xR_4.out
              go_wp2
              refine bodyPost_ret (v := .tuple #[.agg #[.int .i64 0, .int .i64 0], .int .i64 5]) (by simp only [results, Tryz.results32]; go_simp) rfl ?_
              refine ⟨ret_f2 (by rw [HR.out, if_neg (by have q := HQ.out; omega)]), ?_⟩
              repeat first | (with_reducible exact B4) | (with_reducible refine bl_alloc ?_ _) | (with_reducible refine bl_drew ?_) | (with_reducible refine bl_set ?_ (by first | exact Nat.le_refl _ | (simp; done) | (simp; omega)) _)
          ·
            go_wp2_with fail
            refine (val_eq Hp.out Hu.out (by omega) _ hbb (ha.below B2) lx E3.out).mono ?_
            rintro e w3 ⟨rfl, hb3⟩
            have B3 : Bl w w3 := bl_call B2 hb3
            have xR_3 : Bx w3 (w.heap.size) #[.int .i64 0, .int .i64 0] := xR_2.below hb3
            clear cR_2 fR_2 zR_2
            obtain ⟨cR_3, fR_3, zR_3⟩ := xR_3.out
            rcases Int.lt_or_le 1000000000 r with hq2 | hq2
            ·
              have HQ := Lib.hid hq2
              go_wp2_with fail
              refine (val_no Hr.out (by omega) _ hbb (hb.below B3) ly E4.out).mono ?_
              rintro e w4 ⟨rfl, hb4⟩
              have B4 : Bl w w4 := bl_call B3 hb4
              have xR_4 : Bx w4 (w.heap.size) #[.int .i64 0, .int .i64 0] := xR_3.below hb4
              clear cR_3 fR_3 zR_3
              obtain ⟨cR_4, fR_4, zR_4⟩ := xR_4.out
              go_wp2
              refine bodyPost_ret (v := .tuple #[.agg #[.int .i64 0, .int .i64 0], .int .i64 5]) (by simp only [results, Tryz.results32]; go_simp) rfl ?_
              refine ⟨ret_f2 (by rw [HR.out, if_neg (by have q := HQ.out; omega)]), ?_⟩
              repeat first | (with_reducible exact B4) | (with_reducible refine bl_alloc ?_ _) | (with_reducible refine bl_drew ?_) | (with_reducible refine bl_set ?_ (by first | exact Nat.le_refl _ | (simp; done) | (simp; omega)) _)
            ·
              go_wp2_with fail
              refine (val_eq Hr.out Hv.out (by omega) _ hbb (hb.below B3) ly E4.out).mono ?_
              rintro e w4 ⟨rfl, hb4⟩
              have B4 : Bl w w4 := bl_call B3 hb4
              have xR_4 : Bx w4 (w.heap.size) #[.int .i64 0, .int .i64 0] := xR_3.below hb4
              clear cR_3 fR_3 zR_3
              obtain ⟨cR_4, fR_4, zR_4⟩ := xR_4.out
              have m0 := mulb' (show -1000000000 ≤ p ∧ p ≤ 1000000000 by omega) (show 0 ≤ r - 1 ∧ r - 1 ≤ 1000000000 by omega)
              have qg := fun h => quo_gt' (b := r - 1) (o := p) h
              have QG := Lib.hid qg
              clear qg
              rcases Nat.eq_zero_or_pos ys.length with hy | hy
              ·
                obtain rfl := R0.out hy
                have HY := Lib.hid hy
                have hz : p * (1 - 1) = 0 := by simp
                have HC := Lib.hid (show frDigF b wh xs ys = fr3 (fullF (wh * p + u) p) by rw [HR.out, if_pos ⟨by omega, by omega, by rw [hz]; omega⟩, if_pos hy])
                have cz : decide (0 < ys.length) = false := by simp [hy]
                clear m0
                have m1 := mulb' hwh (show 0 ≤ p ∧ p ≤ 1000000000 by omega)
                clear hy
                go_wp2_with fail
                refine (full_any (wh * p + u) p _ (by omega) (by omega) (by omega) (by omega) (by omega)).mono ?_
                rintro e w5 ⟨rfl, hb5⟩
                have B5 : Bl w w5 := bl_call B4 hb5
                have xR_5 : Bx w5 (w.heap.size) #[.int .i64 0, .int .i64 0] := xR_4.below hb5
                clear cR_4 fR_4 zR_4
                obtain ⟨cR_5, fR_5, zR_5⟩ := xR_5.out
                go_wp2
                refine bodyPost_ret (v := .tuple #[.agg #[.int .i64 (fullF (wh * p + u) p).1, .int .i64 (fullF (wh * p + u) p).2.1], .int .i64 (fullF (wh * p + u) p).2.2]) (by simp only [results, Tryz.results32]; go_simp) rfl ?_
                refine ⟨ret_fr3 (by rw [HC.out]; rfl), ?_⟩
                repeat first | (with_reducible exact B5) | (with_reducible refine bl_alloc ?_ _) | (with_reducible refine bl_drew ?_) | (with_reducible refine bl_set ?_ (by first | exact Nat.le_refl _ | (simp; done) | (simp; omega)) _)
              ·
                have hr2 := R2.out hy
                have hy1 : (0 : Int) < (ys.length : Int) := by omega
                rcases Int.lt_or_le 1000000000 (p * (r - 1)) with hq3 | hq3
                ·
                  have HQ := Lib.hid hq3
                  have cq : decide (1000000000 / (r - 1) < p) = true := by rw [decide_eq_true_iff]; exact (QG.out (by omega)).2 hq3
                  go_wp2
                  refine bodyPost_ret (v := .tuple #[.agg #[.int .i64 0, .int .i64 0], .int .i64 5]) (by simp only [results, Tryz.results32]; go_simp) rfl ?_
                  refine ⟨ret_f2 (by rw [HR.out, if_neg (by have q := HQ.out; omega)]), ?_⟩
                  repeat first | (with_reducible exact B4) | (with_reducible refine bl_alloc ?_ _) | (with_reducible refine bl_drew ?_) | (with_reducible refine bl_set ?_ (by first | exact Nat.le_refl _ | (simp; done) | (simp; omega)) _)
                ·
                  have HC := Lib.hid (show frDigF b wh xs ys = fr3 (fullF (wh * (p * (r - 1)) + (u * (r - 1) + v)) (p * (r - 1))) by rw [HR.out, if_pos (by omega), if_neg (by omega)])
                  have cq : decide (1000000000 / (r - 1) < p) = false := by rw [decide_eq_false_iff_not]; intro h; have := (QG.out (by omega)).1 h; omega
                  have m2 := mulb' (show -1000000000 ≤ u ∧ u ≤ 1000000000 by omega) (show 0 ≤ r - 1 ∧ r - 1 ≤ 1000000000 by omega)
                  have m3 := Int.mul_le_mul_of_nonneg_right (show 1 ≤ p by omega) (show 0 ≤ r - 1 by omega)
                  have m4 := mulb' hwh (show 0 ≤ p * (r - 1) ∧ p * (r - 1) ≤ 1000000000 by omega)
                  have m5 := Int.mul_le_mul_of_nonneg_right (show u ≤ p by omega) (show 0 ≤ r - 1 by omega)
                  have m6 := Int.mul_nonneg (show 0 ≤ u by omega) (show 0 ≤ r - 1 by omega)
                  go_wp2_with fail
                  refine (full_any (wh * (p * (r - 1)) + (u * (r - 1) + v)) (p * (r - 1)) _ (by omega) (by omega) (by omega) (by omega) (by omega)).mono ?_
                  rintro e w5 ⟨rfl, hb5⟩
                  have B5 : Bl w w5 := bl_call B4 hb5
                  have xR_5 : Bx w5 (w.heap.size) #[.int .i64 0, .int .i64 0] := xR_4.below hb5
                  clear cR_4 fR_4 zR_4
                  obtain ⟨cR_5, fR_5, zR_5⟩ := xR_5.out
                  go_wp2
                  refine bodyPost_ret (v := .tuple #[.agg #[.int .i64 (fullF (wh * (p * (r - 1)) + (u * (r - 1) + v)) (p * (r - 1))).1, .int .i64 (fullF (wh * (p * (r - 1)) + (u * (r - 1) + v)) (p * (r - 1))).2.1], .int .i64 (fullF (wh * (p * (r - 1)) + (u * (r - 1) + v)) (p * (r - 1))).2.2]) (by simp only [results, Tryz.results32]; go_simp) rfl ?_
                  refine ⟨ret_fr3 (by rw [HC.out]; rfl), ?_⟩
                  repeat first | (with_reducible exact B5) | (with_reducible refine bl_alloc ?_ _) | (with_reducible refine bl_drew ?_) | (with_reducible refine bl_set ?_ (by first | exact Nat.le_refl _ | (simp; done) | (simp; omega)) _)

end Go.Proofs.YtndblondleclpaaGreatDoor

