/- The period of digits: plain numbers. No condition but what each theorem names. -/
namespace Go.Proofs.Ytbonlompmnhmiaa
theorem pigeon (m : Nat) : ∀ (k : Nat) (f : Nat → Nat), (∀ i, i < k → f i < m) → (∀ i j, i < j → j < k → f i ≠ f j) → k ≤ m := by
  induction m with
  | zero =>
    intro k f h _
    rcases Nat.eq_zero_or_pos k with rfl | hk
    · exact Nat.le_refl _
    · have := h 0 hk; omega
  | succ m ih =>
    intro k f h hd
    rcases Nat.eq_zero_or_pos k with rfl | hk
    · omega
    · -- swap: value m is taken by at most one index; move the last index there
      have : k - 1 ≤ m := by
        refine ih (k - 1) (fun i => if f i = m then f (k - 1) else f i) ?_ ?_
        · intro i hi
          have h1 := h i (by omega)
          have h2 := h (k - 1) (by omega)
          have h3 := hd i (k - 1) (by omega) (by omega)
          split <;> omega
        · intro i j hij hj
          have h1 := hd i j hij (by omega)
          have h3 := hd i (k - 1) (by omega) (by omega)
          have h4 := hd j (k - 1) (by omega) (by omega)
          split <;> split <;> omega
      omega

theorem dvd_mul_div_gcd {d x b : Nat} (hd : 0 < d) : d ∣ x * b ↔ d / d.gcd b ∣ x := by
  have hg : 0 < d.gcd b := Nat.gcd_pos_of_pos_left _ hd
  have e1 : d = d.gcd b * (d / d.gcd b) := (Nat.mul_div_cancel' (Nat.gcd_dvd_left d b)).symm
  have e2 : b = d.gcd b * (b / d.gcd b) := (Nat.mul_div_cancel' (Nat.gcd_dvd_right d b)).symm
  have hc : Nat.Coprime (d / d.gcd b) (b / d.gcd b) := Nat.coprime_div_gcd_div_gcd hg
  constructor
  · intro h
    have h2 : d.gcd b * (d / d.gcd b) ∣ d.gcd b * (x * (b / d.gcd b)) := by
      rw [← e1, Nat.mul_left_comm, ← e2]; exact h
    exact hc.dvd_of_dvd_mul_right (Nat.dvd_of_mul_dvd_mul_left hg h2)
  · intro h
    obtain ⟨y, rfl⟩ := h
    have h2 : d.gcd b * (d / d.gcd b) ∣ d.gcd b * (d / d.gcd b) * (y * (b / d.gcd b)) := Nat.dvd_mul_right _ _
    rw [← e1] at h2
    have e3 : d / d.gcd b * y * b = d * (y * (b / d.gcd b)) := by
      have q : d / d.gcd b * y * b = d / d.gcd b * y * (d.gcd b * (b / d.gcd b)) := by rw [← e2]
      rw [q]
      have q2 : d * (y * (b / d.gcd b)) = d.gcd b * (d / d.gcd b) * (y * (b / d.gcd b)) := by rw [← e1]
      rw [q2]
      ac_rfl
    rw [e3]
    exact Nat.dvd_mul_right _ _

/-- Behind k rounds of the reference: what divides. -/
def Red (d b k e : Nat) : Prop := 0 < e ∧ (∀ x, d ∣ x * b ^ k ↔ e ∣ x) ∧ ∀ j, j < k → ∃ f, 1 < f.gcd b ∧ ∀ x, d ∣ x * b ^ j ↔ f ∣ x
theorem Red.start (d b : Nat) (hd : 0 < d) : Red d b 0 d := ⟨hd, fun x => by simp, fun j h => absurd h (by omega)⟩
theorem Red.step {d b k e : Nat} (h : Red d b k e) (hg : 1 < e.gcd b) : Red d b (k + 1) (e / e.gcd b) := by
  obtain ⟨h0, h1, h2⟩ := h
  refine ⟨Nat.div_pos (Nat.le_of_dvd h0 (Nat.gcd_dvd_left _ _)) (by omega), fun x => ?_, fun j hj => ?_⟩
  · rw [Nat.pow_succ, Nat.mul_comm (b ^ k), ← Nat.mul_assoc, h1, dvd_mul_div_gcd h0]
  · by_cases c : j < k
    · exact h2 j c
    · obtain rfl : j = k := by omega
      exact ⟨e, hg, h1⟩

/-- The answer: no digits repeat, or p of them behind s others. Powers less 1 are spelled by an equation of rests. -/
def Per (d b s p : Nat) : Prop :=
  (p = 0 ∧ d ∣ b ^ s ∧ ∀ j, j < s → ¬ d ∣ b ^ j) ∨
  (1 ≤ p ∧ (∀ j, ¬ d ∣ b ^ j) ∧ b ^ (s + p) % d = b ^ s % d ∧ ∀ i j, i < j → j < s + p → b ^ j % d ≠ b ^ i % d)

theorem mod_eq_iff {d b i j : Nat} (h : i ≤ j) (hb : 0 < b) : b ^ j % d = b ^ i % d ↔ d ∣ (b ^ (j - i) - 1) * b ^ i := by
  have e : (b ^ (j - i) - 1) * b ^ i = b ^ j - b ^ i := by
    rw [Nat.sub_mul, ← Nat.pow_add, Nat.one_mul]
    congr 2; omega
  rw [e]
  have hle : b ^ i ≤ b ^ j := Nat.pow_le_pow_right hb h
  constructor
  · intro q
    exact Nat.dvd_of_mod_eq_zero (Nat.sub_mod_eq_zero_of_mod_eq q)
  · rintro ⟨c, q⟩
    rw [show b ^ j = b ^ i + d * c by omega, Nat.add_mul_mod_self_left]

/-- The reference's second loop: d' is prime to the base; p is the first power that is 1 again. -/
theorem per_zero {d b k : Nat} (h : Red d b k 1) : Per d b k 0 := by
  obtain ⟨_, h1, h2⟩ := h
  refine .inl ⟨rfl, ?_, fun j hj hd => ?_⟩
  · have := (h1 1).2 (Nat.dvd_refl 1); rwa [Nat.one_mul] at this
  · obtain ⟨f, hf, h3⟩ := h2 j hj
    have := (h3 1).1 (by rwa [Nat.one_mul])
    obtain rfl := Nat.dvd_one.1 this
    simp at hf
theorem per_ord {d b k e p : Nat} (h : Red d b k e) (hb : 2 ≤ b) (he : 1 < e) (hg : e.gcd b = 1) (hp : 1 ≤ p) (h1 : b ^ p % e = 1) (hm : ∀ j, 1 ≤ j → j < p → b ^ j % e ≠ 1) : Per d b k p := by
  obtain ⟨h0, ha, hl⟩ := h
  have key : ∀ j, 1 ≤ j → (e ∣ b ^ j - 1 ↔ b ^ j % e = 1) := by
    intro j hj
    have hpos : 1 ≤ b ^ j := Nat.one_le_pow _ _ (by omega)
    constructor
    · rintro ⟨c, q⟩
      rw [show b ^ j = 1 + e * c by omega, Nat.add_mul_mod_self_left, Nat.mod_eq_of_lt he]
    · intro q
      have := Nat.mod_add_div (b ^ j) e
      rw [q] at this
      exact ⟨b ^ j / e, by omega⟩
  have cop : ∀ j x, e ∣ x * b ^ j ↔ e ∣ x := by
    intro j x
    have c : Nat.Coprime e (b ^ j) := Nat.Coprime.pow_right _ hg
    exact ⟨fun q => c.dvd_of_dvd_mul_right q, fun q => Nat.dvd_mul_right_of_dvd q _⟩
  have ge : ∀ j x, k ≤ j → (d ∣ x * b ^ j ↔ e ∣ x) := by
    intro j x hj
    rw [show b ^ j = b ^ (j - k) * b ^ k by rw [← Nat.pow_add]; congr 1; omega, ← Nat.mul_assoc, ha, cop]
  refine .inr ⟨hp, fun j hd => ?_, ?_, fun i j hij hj q => ?_⟩
  · rcases Nat.lt_or_ge j k with hj | hj
    · obtain ⟨f, hf, h3⟩ := hl j hj
      have := (h3 1).1 (by rwa [Nat.one_mul])
      obtain rfl := Nat.dvd_one.1 this
      simp at hf
    · have := (ge j 1 hj).1 (by rwa [Nat.one_mul])
      have := Nat.dvd_one.1 this
      omega
  · rw [mod_eq_iff (by omega) (by omega), ge _ _ (Nat.le_refl _), show k + p - k = p by omega, key p hp]
    exact h1
  · rw [mod_eq_iff (by omega) (by omega)] at q
    rcases Nat.lt_or_ge i k with hi | hi
    · obtain ⟨f, hf, h3⟩ := hl i hi
      have q2 := (h3 _).1 q
      have g1 : f.gcd b ∣ b ^ (j - i) - 1 := Nat.dvd_trans (Nat.gcd_dvd_left _ _) q2
      have g2 : f.gcd b ∣ b ^ (j - i) := Nat.dvd_trans (Nat.gcd_dvd_right _ _) (by rw [show j - i = (j - i - 1) + 1 by omega, Nat.pow_succ]; exact Nat.dvd_mul_left _ _)
      have hpos : 1 ≤ b ^ (j - i) := Nat.one_le_pow _ _ (by omega)
      have g3 : f.gcd b ∣ 1 := by
        have := Nat.dvd_sub g2 g1
        rwa [show b ^ (j - i) - (b ^ (j - i) - 1) = 1 by omega] at this
      have := Nat.dvd_one.1 g3
      omega
    · have q2 := (ge _ _ hi).1 q
      exact hm (j - i) (by omega) (by omega) ((key _ (by omega)).1 q2)

/-- The powers of a number prime to e come back to 1 within e - 1 steps. -/
theorem ord_ex {b e : Nat} (he : 1 < e) (hb : 2 ≤ b) (hg : e.gcd b = 1) : ∃ p, 1 ≤ p ∧ p ≤ e ∧ b ^ p % e = 1 := by
  have hx : ∃ i j, i < j ∧ j < e + 1 ∧ b ^ i % e = b ^ j % e := by
    refine Classical.byContradiction fun hn => ?_
    have := pigeon e (e + 1) (fun i => b ^ i % e) (fun i _ => Nat.mod_lt _ (by omega)) (fun i j h1 h2 h3 => hn ⟨i, j, h1, h2, h3⟩)
    omega
  obtain ⟨i, j, hij, hj, q⟩ := hx
  refine ⟨j - i, by omega, by omega, ?_⟩
  have q2 := (mod_eq_iff (d := e) (i := i) (j := j) (by omega) (by omega)).1 q.symm
  have c : Nat.Coprime e (b ^ i) := Nat.Coprime.pow_right _ hg
  obtain ⟨m, q3⟩ := c.dvd_of_dvd_mul_right q2
  have hpos : 1 ≤ b ^ (j - i) := Nat.one_le_pow _ _ (by omega)
  rw [show b ^ (j - i) = 1 + e * m by omega, Nat.add_mul_mod_self_left, Nat.mod_eq_of_lt he]

/-- The program's two endings fit the reference's answer. -/
theorem per_end0 {d b s p k : Nat} (h : Per d b s p) (h0 : d ∣ b ^ k) (hn : ∀ j, j < k → ¬ d ∣ b ^ j) : s = k ∧ p = 0 := by
  rcases h with ⟨rfl, h1, h2⟩ | ⟨_, h1, _⟩
  · refine ⟨?_, rfl⟩
    rcases Nat.lt_trichotomy s k with c | c | c
    · exact absurd h1 (hn s c)
    · exact c
    · exact absurd h0 (h2 k c)
  · exact absurd h0 (h1 k)
theorem per_end1 {d b s p k a : Nat} (h : Per d b s p) (hb : 2 ≤ b) (ha : a < k) (h0 : b ^ k % d = b ^ a % d) (hd : ∀ i j, i < j → j < k → b ^ j % d ≠ b ^ i % d) (hn : ∀ j, j < k → ¬ d ∣ b ^ j) : s = a ∧ p = k - a := by
  rcases h with ⟨rfl, h1, h2⟩ | ⟨hp, h1, h2, h3⟩
  · exfalso
    have hs : k ≤ s := by
      rcases Nat.lt_or_ge s k with c | c
      · exact absurd h1 (hn s c)
      · exact c
    have e : d ∣ (b ^ (k - a) - 1) * b ^ a := (mod_eq_iff (by omega) (by omega)).1 h0
    have e2 : d ∣ (b ^ (k - a) - 1) * b ^ (s - (k - a)) := by
      rw [show b ^ (s - (k - a)) = b ^ a * b ^ (s - k) by rw [← Nat.pow_add]; congr 1; omega, ← Nat.mul_assoc]
      exact Nat.dvd_mul_right_of_dvd e _
    have e3 := (mod_eq_iff (d := d) (i := s - (k - a)) (j := s) (by omega) (by omega : 0 < b)).2 (by rw [show s - (s - (k - a)) = k - a by omega]; exact e2)
    rw [Nat.mod_eq_zero_of_dvd h1] at e3
    exact h2 (s - (k - a)) (by omega) (Nat.dvd_of_mod_eq_zero e3.symm)
  · have hk : s + p = k := by
      rcases Nat.lt_trichotomy (s + p) k with c | c | c
      · exact absurd h2 (hd s (s + p) (by omega) c)
      · exact c
      · exact absurd h0 (h3 a k ha c)
    have : s = a := by
      rcases Nat.lt_trichotomy s a with c | c | c
      · exact absurd (by rw [← h0, ← hk, h2]) (hd s a c (by omega))
      · exact c
      · exact absurd (by rw [← h2, hk, h0]) (hd a s c (by omega))
    omega

/-- The rests of n over d: n is prime to d, so they come back just where the powers do. -/
theorem rest_eq {n d b i j : Nat} (hg : n.gcd d = 1) (hb : 2 ≤ b) (h : i ≤ j) : n * b ^ j % d = n * b ^ i % d ↔ b ^ j % d = b ^ i % d := by
  constructor
  · intro q
    rw [mod_eq_iff h (by omega)]
    have hle : n * b ^ i ≤ n * b ^ j := Nat.mul_le_mul_left _ (Nat.pow_le_pow_right (by omega) h)
    have q2 := Nat.dvd_of_mod_eq_zero (Nat.sub_mod_eq_zero_of_mod_eq q)
    have e : n * b ^ j - n * b ^ i = n * ((b ^ (j - i) - 1) * b ^ i) := by
      rw [← Nat.mul_sub, Nat.sub_mul, ← Nat.pow_add, Nat.one_mul]
      congr 3; omega
    rw [e] at q2
    have c : Nat.Coprime d n := by rw [Nat.Coprime, Nat.gcd_comm]; exact hg
    exact c.dvd_of_dvd_mul_left q2
  · intro q
    rw [Nat.mul_mod, q, ← Nat.mul_mod]
theorem rest_zero {n d b j : Nat} (hg : n.gcd d = 1) : n * b ^ j % d = 0 ↔ d ∣ b ^ j := by
  have c : Nat.Coprime d n := by rw [Nat.Coprime, Nat.gcd_comm]; exact hg
  constructor
  · intro q
    exact c.dvd_of_dvd_mul_left (Nat.dvd_of_mod_eq_zero q)
  · intro q
    exact Nat.mod_eq_zero_of_dvd (Nat.dvd_mul_left_of_dvd q _)

theorem red_ex {b : Nat} (d : Nat) : ∀ m k e, e ≤ m → Red d b k e → ∃ k' e', Red d b k' e' ∧ e'.gcd b = 1 := by
  intro m
  induction m with
  | zero => intro k e he h; have := h.1; omega
  | succ m ih =>
    intro k e he h
    have hp : 0 < e.gcd b := Nat.gcd_pos_of_pos_left _ h.1
    by_cases hg : e.gcd b = 1
    · exact ⟨k, e, h, hg⟩
    · exact ih (k + 1) (e / e.gcd b) (by have := Nat.div_lt_self h.1 (show 1 < e.gcd b by omega); omega) (h.step (by omega))
theorem least_ex {P : Nat → Prop} : ∀ m, P m → ∃ p, p ≤ m ∧ P p ∧ ∀ j, j < p → ¬ P j := by
  intro m
  induction m using Nat.strongRecOn with
  | ind m ih =>
    intro h
    by_cases hx : ∃ j, j < m ∧ P j
    · obtain ⟨j, hj, hp⟩ := hx
      obtain ⟨p, h1, h2, h3⟩ := ih j hj hp
      exact ⟨p, by omega, h2, h3⟩
    · exact ⟨m, Nat.le_refl _, h, fun j hj hp => hx ⟨j, hj, hp⟩⟩
theorem per_ex {d b : Nat} (hd : 0 < d) (hb : 2 ≤ b) : ∃ x : Nat × Nat, Per d b x.1 x.2 := by
  obtain ⟨k, e, h, hg⟩ := red_ex (b := b) d d 0 d (Nat.le_refl _) (Red.start d b hd)
  by_cases he : e = 1
  · subst he; exact ⟨(k, 0), per_zero h⟩
  · have h0 := h.1
    obtain ⟨q, q1, q2, q3⟩ := ord_ex (b := b) (e := e) (by omega) hb hg
    obtain ⟨p, p1, p2, p3⟩ := least_ex (P := fun p => 1 ≤ p ∧ b ^ p % e = 1) q ⟨q1, q3⟩
    exact ⟨(k, p), per_ord h hb (by omega) hg p2.1 p2.2 (fun j j1 j2 j3 => p3 j j2 ⟨j1, j3⟩)⟩
theorem per_one {d b s p s' p' : Nat} (hb : 2 ≤ b) (h : Per d b s p) (h' : Per d b s' p') : (s, p) = (s', p') := by
  rcases h' with ⟨rfl, h1, h2⟩ | ⟨q, h1, h2, h3⟩
  · obtain ⟨rfl, rfl⟩ := per_end0 h h1 h2
    rfl
  · obtain ⟨rfl, rfl⟩ := per_end1 h hb (show s' < s' + p' by omega) h2 h3 (fun j _ => h1 j)
    simp
open Classical in
/-- The digits that do not repeat, and the period. -/
noncomputable def perN (d b : Nat) : Nat × Nat := if h : ∃ x : Nat × Nat, Per d b x.1 x.2 then h.choose else (0, 0)
theorem perN_is {d b : Nat} (hd : 0 < d) (hb : 2 ≤ b) : Per d b (perN d b).1 (perN d b).2 := by
  have h := per_ex (d := d) (b := b) hd hb
  rw [perN, dif_pos h]
  exact h.choose_spec
theorem perN_eq {d b s p : Nat} (hd : 0 < d) (hb : 2 ≤ b) (h : Per d b s p) : perN d b = (s, p) := per_one hb (perN_is hd hb) h

end Go.Proofs.Ytbonlompmnhmiaa
