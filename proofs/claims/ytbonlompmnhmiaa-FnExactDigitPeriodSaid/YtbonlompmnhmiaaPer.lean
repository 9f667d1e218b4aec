/- DigitPeriod: the program and the reference give the same. Each theorem names its conditions. -/
import Derived.Test.YtbonlompmnhmiaaPerM
import Derived.Test.YtbonlompmnhmiaaDof
import Derived.Maps.RangeWalk
import Derived.OpenShut
namespace Go.Proofs.Ytbonlompmnhmiaa
open Go.RowKit
set_option linter.unusedVariables false
set_option linter.unusedSimpArgs false

theorem lawK : Maps.Keyed Try.prog 2 := Maps.int_keyed Try.underlying2
theorem zeroK (w : World) : (zeroValue 2).run Try.prog w = .ok (.int .i64 0) w := by kernel_rfl
theorem ikey {x y : Int} (h : x ≠ y) : (Lit.int .i64 x) ≠ (Lit.int .i64 y) := fun e => h (by injection e)

set_option maxHeartbeats 400000 in
theorem fmod_any (a b : Int) (w : World) (ha : -1000000000 ≤ a ∧ a ≤ 1000000000) (hb : 1 ≤ b ∧ b ≤ 1000000000) :
    Calls Try.prog 51 #[.int .i64 a, .int .i64 b] w fun e w' => e = .returned (.int .i64 (a % b)) ∧ w = w' := by
  have h1 := Int.emod_nonneg a (show b ≠ 0 by omega)
  have h2 := Int.emod_lt_of_pos a (show 0 < b by omega)
  have h3 := Int.mul_ediv_add_emod a b
  have h4 : a - b < b * (a / b) ∧ b * (a / b) ≤ a := by omega
  have H := Lib.hid (show a - b * (a / b) = a % b by omega)
  clear h1 h2 h3
  go_enter Try.func51, Try.ntmps51
  go_wp2_with fail
  refine (fdiv_any _ _ _ (by omega) (by omega) (by omega) (by omega)).mono ?_
  rintro e w' ⟨rfl, rfl⟩
  go_wp2
  go_ret
  exact ⟨ret_int H.out, rfl⟩

/-- What has been collected of a map's keys, and what is still to come. -/
def Coll (D : DataW Unit) (left : Lit → Bool) (ys : List Int) : Prop :=
  ys.Nodup ∧ (∀ y ∈ ys, Maps.has D (.int .i64 y) = true) ∧ ∀ y, left (.int .i64 y) = true ↔ Maps.has D (.int .i64 y) = true ∧ y ∉ ys
theorem Coll.start (D : DataW Unit) : Coll D (Maps.has D) [] := ⟨List.nodup_nil, by simp, by simp⟩
theorem Coll.step {D : DataW Unit} {left : Lit → Bool} {ys : List Int} {x : Int} (h : Coll D left ys) (hx : left (.int .i64 x) = true) : Coll D (fun z => left z && !z.sameKey (.int .i64 x)) (ys ++ [x]) := by
  obtain ⟨h1, h2, h3⟩ := h
  have hx2 := (h3 x).1 hx
  refine ⟨?_, ?_, ?_⟩
  · rw [List.nodup_append]
    exact ⟨h1, by simp, fun a ha b hb e => by simp at hb; subst hb; subst e; exact hx2.2 ha⟩
  · intro y hy
    rcases List.mem_append.1 hy with hy | hy
    · exact h2 y hy
    · simp at hy; subst hy; exact hx2.1
  · intro y
    have := h3 y
    simp only [Bool.and_eq_true, List.mem_append, List.mem_singleton, not_or, Lit.sameKey, Bool.not_eq_true', decide_eq_false_iff_not, true_and]
    rw [this, and_assoc]
theorem Coll.le {D : DataW Unit} {left : Lit → Bool} {ys xs : List Int} (h : Coll D left ys) (hx : ∀ x, Maps.has D (.int .i64 x) = true ↔ x ∈ xs) : ys.length ≤ xs.length :=
  List.Nodup.length_le_of_subset h.1 (fun y hy => (hx y).1 (h.2.1 y hy))
theorem Coll.fin {D : DataW Unit} {left : Lit → Bool} {ys xs : List Int} (h : Coll D left ys) (hx : ∀ x, Maps.has D (.int .i64 x) = true ↔ x ∈ xs) (hn : xs.Nodup) (hl : ∀ kl, left kl = false) : ys.length = xs.length := by
  refine Nat.le_antisymm (h.le hx) (List.Nodup.length_le_of_subset hn (fun y hy => ?_))
  refine Classical.byContradiction fun hc => ?_
  have := (h.2.2 y).2 ⟨(hx y).2 hy, hc⟩
  rw [hl] at this
  cases this
theorem Coll.lt {D : DataW Unit} {left : Lit → Bool} {ys xs : List Int} {x : Int} (h : Coll D left ys) (hx : ∀ x, Maps.has D (.int .i64 x) = true ↔ x ∈ xs) (hl : left (.int .i64 x) = true) : ys.length < xs.length := by
  have := (h.step hl).le hx
  simp at this
  omega

set_option maxRecDepth 100000 in
set_option maxHeartbeats 1600000 in
theorem keys_any (b n : Nat) (D : DataW Unit) (xs : List Int) (w : World) (hown : w.ownsMap Try.prog 2 (plainElem Try.prog 2) b n D) (hnd : xs.Nodup) (hl : xs.length ≤ 1000000) (hx : ∀ x, Maps.has D (.int .i64 x) = true ↔ x ∈ xs) :
    Calls Try.prog 53 #[.map (some b)] w fun e w' => ∃ a c, e = .returned (.slice a xs.length c) ∧ Bl w w' := by
  have HX := Lib.hid hx
  have HN := Lib.hid hnd
  clear hx hnd
  go_enter Try.func53, Try.ntmps53
  go_wp2_with (first
    | (at_range; refine wpList_range_own _ rfl _ 60 rfl 2 2 lawK Try.underlying60 _ b n _ rfl hown ?_; intro w0 hrg0 hg0 hs0)
    | go_in)
  go_frame
  have HS := Lib.hid hs0
  clear hs0
  go_loopw [3, 4] (fun s3 _ wr => ∃ (left : Lit → Bool) (cnt : Nat) (ys : List Int) (a : Option Addr) (c : Nat), s3 = .slice a ys.length c ∧ Own wr (w.heap.size + 1) (.slice a ys.length c) ys ∧ wr.ranges Try.prog 2 (plainElem Try.prog 2) b w.heap.size n D left cnt ∧ Hid (Coll D left ys) ∧ Bl w wr) (fun _ _ wr => wr.rangeLeft b w.heap.size)
  case atStart => exact ⟨_, _, [], none, 0, rfl, Own.nil _ _, hrg0, Lib.hid (Coll.start D), below_of_grown hg0⟩
  case round =>
    obtain ⟨left, cnt, ys, a, c, rfl, ho, hrg, hC, B1⟩ := hrel
    have HO := Lib.hid ho
    clear ho
    have hrlt := hrg.lt
    go_wp2_with (first
      | (at_next; refine wpList_next_ranges_ii _ rfl _ rfl 2 2 .i64 .i64 lawK Try.underlying2 Try.underlying2 b w.heap.size n _ _ _ rfl hrg ?_ ?_)
      | go_in)
    · intro hc0 hl0
      have HL := Lib.hid (hC.out.fin HX.out HN.out hl0)
      clear hl0 hc0
      go_wp2
      go_ret
      have e := HL.out
      exact ⟨a, c, by rw [e]; rfl, B1⟩
    · intro x y w1 cnt1 hwx hwc hlx hat hrg1 hlt hg1 hs1 hen
      have hlen := hC.out.lt HX.out hlx
      have HC1 := Lib.hid (hC.out.step hlx)
      have hb := HO.out.lt
      have ho1 := HO.out.grown hg1 (by cases hv : (Value.slice a ys.length c).ownBlock with | none => exact .inl rfl | some k => refine .inr ?_; intro e; injection e with e; have := (hb k hv).1; omega)
      have hB1 : Bl w w1 := B1.trans ⟨hg1.os, hg1.tape, hg1.output, hg1.size, fun k hk => hg1.block k (Nat.lt_of_lt_of_le hk B1.size) (by intro e; injection e with e; omega)⟩
      have H1 := Lib.hid ho1
      have hrlt1 := hrg1.lt
      have HR64 := Lib.hid (show R64 x by have := Go.bounds_i64 hwx; unfold R64; omega)
      have HLQ := Lib.hid hrg.left_eq
      clear hC hlx hat hs1 ho1 hb hg1 hwx hwc hrg
      go_wp2_with (first
        | (at_builtin; refine wpList_append_one rfl _ _ rfl (w.heap.size + 1) _ ys (by rfl) H1.out x HR64.out (by rfl) (by omega) (by omega) ?_; intro v' wn ho hg _; obtain ⟨a1, c1, rfl, _⟩ := ho.form)
        | go_in)
      have hb1 := H1.out.lt
      have hrg2 := hrg1.kept hg (fun e => by have := (hb1 b e.symm).1; have := hown.lt; omega) (fun e => by have := (hb1 _ e.symm).1; omega)
      have hB2 := bl_grown hB1 hg (fun k hk => by have := (hb1 k hk).1; omega)
      have HO2 := Lib.hid ho
      clear hb1 hg ho
      go_roundw
      case rel => exact ⟨_, _, ys ++ [x], a1, c1, by simp, by simpa using HO2.out, hrg2, HC1, hB2⟩
      case measure => rw [hrg2.left_eq, HLQ.out]; omega

/-- The rests of n over d in base b. -/
def rr (n d b i : Nat) : Int := ((n * b ^ i % d : Nat) : Int)
theorem rr_bd {n d b : Nat} (hd : 0 < d) (i : Nat) : 0 ≤ rr n d b i ∧ rr n d b i < d := by
  unfold rr
  have := Nat.mod_lt (n * b ^ i) hd
  omega
theorem rr_step (n d b i : Nat) : rr n d b i * b % d = rr n d b (i + 1) := by
  unfold rr
  rw [← Int.natCast_mul, ← Int.natCast_emod, Nat.mod_mul_mod, Nat.pow_succ, Nat.mul_assoc]
/-- What the map holds: the first k rests, each with its place. -/
def RestMap (D : DataW Unit) (n d b k : Nat) : Prop :=
  (∀ x, Maps.has D (.int .i64 x) = true ↔ ∃ i, i < k ∧ rr n d b i = x) ∧ ∀ i, i < k → ∀ z, D.atKey (.int .i64 (rr n d b i)) z = .lit (.int .i64 i)
theorem RestMap.start (n d b : Nat) : RestMap (.map []) n d b 0 := ⟨fun x => ⟨fun h => by simp [Maps.has] at h, fun ⟨i, hi, _⟩ => absurd hi (by omega)⟩, fun i hi => absurd hi (by omega)⟩
theorem RestMap.no {D : DataW Unit} {n d b k : Nat} {x : Int} (h : RestMap D n d b k) (hx : ¬ ∃ i, i < k ∧ rr n d b i = x) : Maps.has D (.int .i64 x) = false := by
  cases e : Maps.has D (.int .i64 x)
  · rfl
  · exact absurd ((h.1 x).1 e) hx
theorem RestMap.yes {D : DataW Unit} {n d b k : Nat} {x : Int} (h : RestMap D n d b k) (hx : ∃ i, i < k ∧ rr n d b i = x) : Maps.has D (.int .i64 x) = true := (h.1 x).2 hx
theorem RestMap.put {D : DataW Unit} {n d b k : Nat} {x : Int} (h : RestMap D n d b k) (hD : Maps.IsMap D) (hx : x = rr n d b k) (hn : ¬ ∃ i, i < k ∧ rr n d b i = x) : RestMap (D.put (.int .i64 x) (.lit (.int .i64 k))) n d b (k + 1) := by
  obtain ⟨h1, h2⟩ := h
  refine ⟨fun y => ?_, fun i hi z => ?_⟩
  · by_cases hy : y = x
    · subst hy
      rw [Maps.has_put_same hD (by exact trivial)]
      exact ⟨fun _ => ⟨k, by omega, hx.symm⟩, fun _ => rfl⟩
    · rw [Maps.has_put_other (ikey hy), h1]
      constructor
      · rintro ⟨i, hi, e⟩; exact ⟨i, by omega, e⟩
      · rintro ⟨i, hi, e⟩
        refine ⟨i, ?_, e⟩
        rcases Nat.lt_or_ge i k with c | c
        · exact c
        · obtain rfl : i = k := by omega
          exact absurd (e.symm.trans hx.symm) hy
  · by_cases hk : i = k
    · subst hk
      rw [← hx, Maps.atKey_put_same hD (by exact trivial)]
    · have hne : rr n d b i ≠ x := fun e => hn ⟨i, by omega, e⟩
      rw [Maps.atKey_put_other (ikey hne)]
      exact h2 i (by omega) z
/-- The first k rests are distinct, and none is nought. -/
def Rng (n d b k : Nat) : Prop := (∀ i j, i < j → j < k → rr n d b j ≠ rr n d b i) ∧ ∀ j, j < k → rr n d b j ≠ 0
theorem Rng.start (n d b : Nat) : Rng n d b 0 := ⟨fun i j _ h => absurd h (by omega), fun j h => absurd h (by omega)⟩
theorem Rng.step {n d b k : Nat} {x : Int} (h : Rng n d b k) (hx : x = rr n d b k) (h0 : x ≠ 0) (hn : ¬ ∃ i, i < k ∧ rr n d b i = x) : Rng n d b (k + 1) := by
  refine ⟨fun i j hij hj e => ?_, fun j hj e => ?_⟩
  · rcases Nat.lt_or_ge j k with c | c
    · exact h.1 i j hij c e
    · obtain rfl : j = k := by omega
      exact hn ⟨i, hij, e.symm.trans hx.symm⟩
  · rcases Nat.lt_or_ge j k with c | c
    · exact h.2 j c e
    · obtain rfl : j = k := by omega
      exact h0 (hx.trans e)
theorem Rng.le {n d b k : Nat} (hd : 0 < d) (h : Rng n d b k) : k ≤ d := by
  refine pigeon d k (fun i => n * b ^ i % d) (fun i _ => Nat.mod_lt _ hd) (fun i j hij hj e => h.1 i j hij hj ?_)
  unfold rr
  omega
theorem Rng.list {n d b k : Nat} (h : Rng n d b k) : ((List.range k).map (rr n d b)).Nodup := by
  unfold List.Nodup
  rw [List.pairwise_map]
  refine List.Pairwise.imp_of_mem ?_ List.pairwise_lt_range
  intro i j hi hj hij e
  exact h.1 i j hij (List.mem_range.1 hj) e.symm
theorem Rng.pow {n d b k : Nat} (hg : n.gcd d = 1) (hb : 2 ≤ b) (h : Rng n d b k) : (∀ i j, i < j → j < k → b ^ j % d ≠ b ^ i % d) ∧ ∀ j, j < k → ¬ d ∣ b ^ j := by
  refine ⟨fun i j hij hj e => h.1 i j hij hj ?_, fun j hj hd => h.2 j hj ?_⟩
  · unfold rr
    rw [(rest_eq hg hb (Nat.le_of_lt hij)).2 e]
  · unfold rr
    rw [(rest_zero hg).2 hd]; rfl
theorem fin0 {n d b k : Nat} (hd : 0 < d) (hg : n.gcd d = 1) (hb : 2 ≤ b) (h : Rng n d b k) (h0 : rr n d b k = 0) : perN d b = (k, 0) := by
  have p := perN_is hd hb
  obtain ⟨e1, e2⟩ := per_end0 p ((rest_zero hg).1 (by unfold rr at h0; omega)) (h.pow hg hb).2
  rw [← e1, ← e2]
theorem fin1 {n d b k a : Nat} (hd : 0 < d) (hg : n.gcd d = 1) (hb : 2 ≤ b) (h : Rng n d b k) (ha : a < k) (h0 : rr n d b a = rr n d b k) : perN d b = (a, k - a) := by
  have p := perN_is hd hb
  obtain ⟨e1, e2⟩ := per_end1 p hb ha ((rest_eq hg hb (Nat.le_of_lt ha)).1 (by unfold rr at h0; omega)) (h.pow hg hb).1 (h.pow hg hb).2
  rw [← e2, ← e1]
/-- How many digits stand before those that repeat, how many repeat, and a code. -/
noncomputable def perF (n d b : Int) : Int × Int × Int :=
  if okF n d then (if inB b 2 36 then (if d ≤ 100000 then (((perN d.toNat b.toNat).1 : Int), ((perN d.toNat b.toNat).2 : Int), 0) else (0, 0, 2)) else (0, 0, 2)) else (0, 0, 1)
theorem per_bad {n d b : Int} (h : okF n d = false) : perF n d b = (0, 0, 1) := by simp [perF, h]
theorem per_base {n d b : Int} (h : okF n d = true) (h2 : inB b 2 36 = false) : perF n d b = (0, 0, 2) := by simp [perF, h, h2]
theorem per_big {n d b : Int} (h : okF n d = true) (h2 : inB b 2 36 = true) (h3 : 100000 < d) : perF n d b = (0, 0, 2) := by
  have : ¬ d ≤ 100000 := by omega
  simp [perF, h, h2, this]
theorem per_yes {n : Int} {d b : Nat} (h : okF n d = true) (h2 : inB (b : Int) 2 36 = true) (h3 : (d : Int) ≤ 100000) : perF n d b = (((perN d b).1 : Int), ((perN d b).2 : Int), 0) := by simp [perF, h, h2, h3]
theorem ret_3 {r : Int × Int × Int} {a b c : Int} (h : r = (a, b, c)) : Ending.returned (.tuple #[.int .i64 a, .int .i64 b, .int .i64 c]) = .returned (.tuple #[.int .i64 r.1, .int .i64 r.2.1, .int .i64 r.2.2]) := by subst h; rfl

theorem gcd_rest {n : Int} {d N : Nat} (h : n % (d : Int) = N) (hg : gcdI n d = 1) : N.gcd d = 1 := by
  have e : gcdI (n % d) d = 1 := by
    have g1 : gcdI (n % d) d ∣ n % d := Int.gcd_dvd_left _ _
    have g2 : gcdI (n % d) d ∣ d := Int.gcd_dvd_right _ _
    have g3 : gcdI (n % d) d ∣ n := by
      have e1 : gcdI (n % d) d ∣ d * (n / d) + n % d := Int.dvd_add (Int.dvd_trans g2 (Int.dvd_mul_right _ _)) g1
      rwa [Int.mul_ediv_add_emod] at e1
    have g4 : gcdI (n % d) d ∣ 1 := by
      rw [← hg]
      exact Int.dvd_coe_gcd g3 g2
    exact Int.eq_one_of_dvd_one (by unfold gcdI; omega) g4
  rw [h] at e
  have : ((N.gcd d : Nat) : Int) = 1 := e
  omega
theorem mul_bd36 {x : Int} {b : Nat} (hx : 0 ≤ x ∧ x ≤ 100000) (hb : (b : Int) ≤ 36) : 0 ≤ x * b ∧ x * b ≤ 3600000 := by
  have a1 := Int.mul_nonneg hx.1 (show (0 : Int) ≤ b by omega)
  have a2 := Int.mul_le_mul hx.2 hb (show (0 : Int) ≤ b by omega) (by omega)
  exact ⟨a1, by omega⟩

set_option maxRecDepth 100000 in
set_option maxHeartbeats 3200000 in
theorem impl_DigitPeriod (n d b : Int) (w : World) :
    Calls Try.prog 13 #[.agg #[.int .i64 n, .int .i64 d], .int .i64 b] w fun e w' => e = .returned (.tuple #[.int .i64 (perF n d b).1, .int .i64 (perF n d b).2.1, .int .i64 (perF n d b).2.2]) ∧ Bl w w' := by
  cases e1 : okF n d with
  | false =>
    have HR := Lib.hid (per_bad (b := b) e1)
    have E1 := Lib.hid e1
    clear e1
    go_enter Try.func13, Try.ntmps13
    go_wp2_with fail
    refine (validF_eq E1.out _).mono ?_
    rintro e w1 ⟨rfl, hb1⟩
    have B1 : Bl w w1 := bl_call (bl_alloc (bl_refl _) _) hb1
    have xF_1 : Bx w1 (w.heap.size) #[.int .i64 n, .int .i64 d] := (Bx.new (b := w.heap.size) _ #[.int .i64 n, .int .i64 d] 26 (by first | rfl | simp)).below hb1
    obtain ⟨cF_1, fF_1, zF_1⟩ := xF_1.out
    go_wp2
    go_ret3
    exact ⟨ret_3 HR.out, B1⟩
  | true =>
    have hF := okF_iff.1 e1
    cases e2 : inB b 2 36 with
    | false =>
      have HR := Lib.hid (per_base e1 e2)
      have E1 := Lib.hid e1
      clear e1
      have E2 := Lib.hid e2
      clear e2
      go_enter Try.func13, Try.ntmps13
      go_wp2_with fail
      refine (validF_eq E1.out _).mono ?_
      rintro e w1 ⟨rfl, hb1⟩
      have B1 : Bl w w1 := bl_call (bl_alloc (bl_refl _) _) hb1
      have xF_1 : Bx w1 (w.heap.size) #[.int .i64 n, .int .i64 d] := (Bx.new (b := w.heap.size) _ #[.int .i64 n, .int .i64 d] 26 (by first | rfl | simp)).below hb1
      obtain ⟨cF_1, fF_1, zF_1⟩ := xF_1.out
      go_wp2_with fail
      refine (ibase_eq E2.out _).mono ?_
      rintro e w9 ⟨rfl, rfl⟩
      go_wp2
      go_ret3
      exact ⟨ret_3 HR.out, B1⟩
    | true =>
      have hb := inB_iff.1 e2
      by_cases h3 : 100000 < d
      ·
       have HR := Lib.hid (per_big e1 e2 h3)
       have E1 := Lib.hid e1
       clear e1
       have E2 := Lib.hid e2
       clear e2
       go_enter Try.func13, Try.ntmps13
       go_wp2_with fail
       refine (validF_eq E1.out _).mono ?_
       rintro e w1 ⟨rfl, hb1⟩
       have B1 : Bl w w1 := bl_call (bl_alloc (bl_refl _) _) hb1
       have xF_1 : Bx w1 (w.heap.size) #[.int .i64 n, .int .i64 d] := (Bx.new (b := w.heap.size) _ #[.int .i64 n, .int .i64 d] 26 (by first | rfl | simp)).below hb1
       obtain ⟨cF_1, fF_1, zF_1⟩ := xF_1.out
       go_wp2_with fail
       refine (ibase_eq E2.out _).mono ?_
       rintro e w9 ⟨rfl, rfl⟩
       go_wp2
       go_ret3
       exact ⟨ret_3 HR.out, B1⟩
      ·
        have h3' : d ≤ 100000 := by omega
        obtain ⟨⟨hd1, hd2⟩, hn, hg⟩ := hF
        obtain ⟨d, rfl⟩ := Int.eq_ofNat_of_zero_le (show 0 ≤ d by omega)
        obtain ⟨b, rfl⟩ := Int.eq_ofNat_of_zero_le (show 0 ≤ b by omega)
        have hd0 : 0 < d := by omega
        have hb0 : 2 ≤ b := by omega
        have hg1 : gcdI n d = 1 := hg
        clear hg
        have HR := Lib.hid (per_yes e1 e2 h3')
        have E1 := Lib.hid e1
        clear e1
        have E2 := Lib.hid e2
        clear e2
        obtain ⟨N, hN⟩ := Int.eq_ofNat_of_zero_le (Int.emod_nonneg n (show (d : Int) ≠ 0 by omega))
        have HG := Lib.hid (gcd_rest hN hg1)
        have HN := Lib.hid hN
        clear hN hg1
        have hmm := @run_makeMap Try.prog
        go_enter Try.func13, Try.ntmps13
        go_wp2_with fail
        refine (validF_eq E1.out _).mono ?_
        rintro e w1 ⟨rfl, hb1⟩
        have B1 : Bl w w1 := bl_call (bl_alloc (bl_refl _) _) hb1
        have xF_1 : Bx w1 (w.heap.size) #[.int .i64 n, .int .i64 ((d : Nat) : Int)] := (Bx.new (b := w.heap.size) _ #[.int .i64 n, .int .i64 ((d : Nat) : Int)] 26 (by first | rfl | simp)).below hb1
        obtain ⟨cF_1, fF_1, zF_1⟩ := xF_1.out
        go_wp2_with fail
        refine (ibase_eq E2.out _).mono ?_
        rintro e w9 ⟨rfl, rfl⟩
        go_wp2_with fail
        refine (fmod_any _ _ _ (by omega) (by omega)).mono ?_
        rintro e w9 ⟨rfl, rfl⟩
        rw [HN.out]
        go_wp2_with fail
        obtain ⟨wm, HWM⟩ : ∃ wm : World, Hid (wm = w1.alloc (.map #[] 0)) := ⟨_, Lib.hid rfl⟩
        have hown0 : (w1.alloc (.map #[] 0)).ownsMap Try.prog 2 (plainElem (H := Unit) Try.prog 2) w1.heap.size 0 (.map []) := World.ownsMap_made _ _ _ _
        have xM := (xF_1).alloc (.map #[] 0)
        have hz1 := xF_1.out.2.2
        go_loopw [8, 9, 10, 11] (fun s8 s9 _ _ wr => ∃ (k : Nat) (x : Int) (D : DataW Unit), s9 = .int .i64 k ∧ s8 = .int .i64 x ∧ 0 ≤ x ∧ x < d ∧ k ≤ d ∧ Hid (x = rr N d b k) ∧ Hid (Rng N d b k) ∧ Hid (RestMap D N d b k) ∧ wr.ownsMap Try.prog 2 (plainElem Try.prog 2) w1.heap.size k D ∧ Bx wr w.heap.size #[.int .i64 n, .int .i64 d] ∧ Bl w1 wr) (fun _ s9 _ _ _ => d + 1 - (intOf s9).toNat)
        case atStart => exact ⟨0, ((N : Nat) : Int), .map [], rfl, rfl, by omega, (by have := Int.emod_lt_of_pos n (show (0 : Int) < d by omega); have := HN.out; omega), Nat.zero_le _, Lib.hid (by unfold rr; rw [Nat.pow_zero, Nat.mul_one, Nat.mod_eq_of_lt (by have := Int.emod_lt_of_pos n (show (0 : Int) < d by omega); have := HN.out; omega)]), Lib.hid (Rng.start _ _ _), Lib.hid (RestMap.start _ _ _), hown0, xM, bl_alloc (bl_refl _) _⟩
        case round =>
          obtain ⟨k, x, D, rfl, rfl, hx0, hxd, hkd, HX, HRG, HM, hown, xF, Bq⟩ := hrel
          have Br : Bl w wr := bl_call B1 Bq
          clear hown0 xM cF_1 fF_1 zF_1
          obtain ⟨cF, fF, zF⟩ := xF.out
          have hxb := mul_bd36 (x := x) (b := b) ⟨hx0, by omega⟩ (by omega)
          by_cases h0 : x = 0
          · have c0 : (x != 0) = false := by simp [h0]
            have HF := Lib.hid (fin0 hd0 HG.out hb0 HRG.out (by rw [← HX.out]; exact h0))
            have HLS := Lib.hid HRG.out.list
            have HMS := Lib.hid (show ∀ x, Maps.has D (.int .i64 x) = true ↔ x ∈ (List.range k).map (rr N d b) from fun x => by rw [HM.out.1 x]; simp [List.mem_map, List.mem_range])
            clear h0
            go_wp2_with fail
            refine (keys_any _ _ D ((List.range k).map (rr N d b)) _ hown HLS.out (by simp; omega) HMS.out).mono ?_
            rintro e w2 ⟨a, c, rfl, hb2⟩
            rw [show ((List.range k).map (rr N d b)).length = k by simp]
            go_wp2_with fail
            refine (lsize_any _ _ _ _ (by omega)).mono ?_
            rintro e w3 ⟨rfl, rfl⟩
            go_wp2
            go_ret3
            exact ⟨ret_3 (by rw [HR.out, HF.out]; rfl), bl_call Br hb2⟩
          · have c0 : (x != 0) = true := by simp [h0]
            have HK := Lib.hid (show keyOf Try.prog 2 (.int .i64 x) = some (.int .i64 x) from Maps.keyOf_int_mk Try.underlying2 (WalkArith.wf_i64 (by omega)))
            by_cases hin : ∃ i, i < k ∧ rr N d b i = x
            · have hh : Maps.has D (Lit.int .i64 x) = true := HM.out.yes hin
              obtain ⟨i, hi, hix⟩ := hin
              have HF := Lib.hid (fin1 hd0 HG.out hb0 HRG.out hi (hix.trans HX.out))
              have HAT := Lib.hid (show D.atKey (.int .i64 x) (.lit (.int .i64 0)) = .lit (.int .i64 i) by rw [← hix]; exact HM.out.2 i hi _)
              have HIX := Lib.hid hix
              clear hix h0
              go_wp2_with (at_lookup; refine wpList_lookup_own_ok_int _ rfl _ _ 60 rfl 2 2 .i64 lawK Try.underlying60 Try.underlying2 (zeroK _) w1.heap.size k _ rfl hown _ _ rfl HK.out ?_; intro c hat hwc; have hci : c = i := (by have e := hat.symm.trans HAT.out; injection e with e; injection e with _ e); clear hat hwc; subst hci)
              go_ret3
              exact ⟨ret_3 (by rw [HR.out, HF.out]; simp; omega), Br⟩
            · have hh : Maps.has D (Lit.int .i64 x) = false := HM.out.no hin
              have HRG2 := Lib.hid (HRG.out.step HX.out h0 hin)
              have hk2 := HRG2.out.le hd0
              have HM2 := Lib.hid (HM.out.put hown.isMap HX.out hin)
              have HX2 := Lib.hid (show x * b % d = rr N d b (k + 1) by rw [HX.out]; exact rr_step _ _ _ _)
              have hxm1 := Int.emod_nonneg (x * b) (show (d : Int) ≠ 0 by omega)
              have hxm2 := Int.emod_lt_of_pos (x * b) (show (0 : Int) < d by omega)
              have hdz : ((d : Int) == 0) = false := by simp; omega
              clear hin h0
              go_wp2_with (first | (at_lookup; refine wpList_lookup_own_ok_int _ rfl _ _ 60 rfl 2 2 .i64 lawK Try.underlying60 Try.underlying2 (zeroK _) w1.heap.size k _ rfl hown _ _ rfl HK.out ?_; intro c hat hwc; clear hat hwc) | (at_mapUpdate; refine wpList_mapUpdate_own _ rfl _ _ _ 60 rfl 2 2 lawK Try.underlying60 _ w1.heap.size k _ rfl hown (by unfold maxLen; omega) _ _ _ rfl rfl HK.out _ [] (plainElem_int Try.underlying2 (WalkArith.wf_i64 (by omega))) ?_; intro w2 hown2 hg2; have x2 := xF.grownApartF hg2 (fun e => by injection e with e; omega); clear cF fF zF; obtain ⟨cF2, fF2, zF2⟩ := x2.out))
              have B2 := bl_grown Bq hg2 (fun j hj => by injection hj with hj; omega)
              clear hg2
              go_roundw
              case rel => exact ⟨k + 1, _, _, by go_num, rfl, hxm1, hxm2, hk2, HX2, HRG2, HM2, hown2, x2, B2⟩
              case measure => simp only [intOf]; omega

set_option maxRecDepth 100000 in
set_option maxHeartbeats 3200000 in
theorem spec_DigitPeriod (n d b : Int) (w : World) :
    Calls Try.prog 11 #[.agg #[.int .i64 n, .int .i64 d], .int .i64 b] w fun e w' => e = .returned (.tuple #[.int .i64 (perF n d b).1, .int .i64 (perF n d b).2.1, .int .i64 (perF n d b).2.2]) ∧ Bl w w' := by
  cases e1 : okF n d with
  | false =>
    have HR := Lib.hid (per_bad (b := b) e1)
    have E1 := Lib.hid e1
    clear e1
    go_enter Try.func11, Try.ntmps11
    go_wp2_with fail
    refine (ok_eq E1.out _).mono ?_
    rintro e w1 ⟨rfl, hb1⟩
    have B1 : Bl w w1 := bl_call (bl_alloc (bl_refl _) _) hb1
    have xF_1 : Bx w1 (w.heap.size) #[.int .i64 n, .int .i64 d] := (Bx.new (b := w.heap.size) _ #[.int .i64 n, .int .i64 d] 26 (by first | rfl | simp)).below hb1
    obtain ⟨cF_1, fF_1, zF_1⟩ := xF_1.out
    go_wp2
    go_ret3
    exact ⟨ret_3 HR.out, B1⟩
  | true =>
    have hF := okF_iff.1 e1
    cases e2 : inB b 2 36 with
    | false =>
      have HR := Lib.hid (per_base e1 e2)
      have E1 := Lib.hid e1
      clear e1
      have E2 := Lib.hid e2
      clear e2
      go_enter Try.func11, Try.ntmps11
      go_wp2_with fail
      refine (ok_eq E1.out _).mono ?_
      rintro e w1 ⟨rfl, hb1⟩
      have B1 : Bl w w1 := bl_call (bl_alloc (bl_refl _) _) hb1
      have xF_1 : Bx w1 (w.heap.size) #[.int .i64 n, .int .i64 d] := (Bx.new (b := w.heap.size) _ #[.int .i64 n, .int .i64 d] 26 (by first | rfl | simp)).below hb1
      obtain ⟨cF_1, fF_1, zF_1⟩ := xF_1.out
      go_wp2_with fail
      refine (sbase_eq E2.out _).mono ?_
      rintro e w9 ⟨rfl, rfl⟩
      go_wp2
      go_ret3
      exact ⟨ret_3 HR.out, B1⟩
    | true =>
      have hb := inB_iff.1 e2
      by_cases h3 : 100000 < d
      ·
       have HR := Lib.hid (per_big e1 e2 h3)
       have E1 := Lib.hid e1
       clear e1
       have E2 := Lib.hid e2
       clear e2
       go_enter Try.func11, Try.ntmps11
       go_wp2_with fail
       refine (ok_eq E1.out _).mono ?_
       rintro e w1 ⟨rfl, hb1⟩
       have B1 : Bl w w1 := bl_call (bl_alloc (bl_refl _) _) hb1
       have xF_1 : Bx w1 (w.heap.size) #[.int .i64 n, .int .i64 d] := (Bx.new (b := w.heap.size) _ #[.int .i64 n, .int .i64 d] 26 (by first | rfl | simp)).below hb1
       obtain ⟨cF_1, fF_1, zF_1⟩ := xF_1.out
       go_wp2_with fail
       refine (sbase_eq E2.out _).mono ?_
       rintro e w9 ⟨rfl, rfl⟩
       go_wp2
       go_ret3
       exact ⟨ret_3 HR.out, B1⟩
      ·
        have h3' : d ≤ 100000 := by omega
        obtain ⟨⟨hd1, hd2⟩, hn, hg⟩ := hF
        obtain ⟨d, rfl⟩ := Int.eq_ofNat_of_zero_le (show 0 ≤ d by omega)
        obtain ⟨b, rfl⟩ := Int.eq_ofNat_of_zero_le (show 0 ≤ b by omega)
        have hd0 : 0 < d := by omega
        have hb0 : 2 ≤ b := by omega
        have hg1 : gcdI n d = 1 := hg
        clear hg
        have HR := Lib.hid (per_yes e1 e2 h3')
        have E1 := Lib.hid e1
        clear e1
        have E2 := Lib.hid e2
        clear e2
        clear hg1
        go_enter Try.func11, Try.ntmps11
        go_wp2_with fail
        refine (ok_eq E1.out _).mono ?_
        rintro e w1 ⟨rfl, hb1⟩
        have B1 : Bl w w1 := bl_call (bl_alloc (bl_refl _) _) hb1
        have xF_1 : Bx w1 (w.heap.size) #[.int .i64 n, .int .i64 ((d : Nat) : Int)] := (Bx.new (b := w.heap.size) _ #[.int .i64 n, .int .i64 ((d : Nat) : Int)] 26 (by first | rfl | simp)).below hb1
        obtain ⟨cF_1, fF_1, zF_1⟩ := xF_1.out
        go_wp2_with fail
        refine (sbase_eq E2.out _).mono ?_
        rintro e w9 ⟨rfl, rfl⟩
        go_wp2_with fail
        refine (lgcd_any _ _ _ (by omega) (by omega) (by omega)).mono ?_
        rintro e w9 ⟨rfl, rfl⟩
        go_wp2_with fail
        go_loopw [7, 8, 9] (fun s7 s8 s9 wr => ∃ (e k : Nat), s7 = .int .i64 e ∧ s8 = .int .i64 k ∧ s9 = .int .i64 (gcdI e b) ∧ k + e ≤ d ∧ 1 ≤ e ∧ Hid (Red d b k e) ∧ Bx wr w.heap.size #[.int .i64 n, .int .i64 d] ∧ wr = w1) (fun s7 _ _ _ => (intOf s7).toNat)
        case atStart => exact ⟨d, 0, rfl, rfl, rfl, by omega, by omega, Lib.hid (Red.start d b hd0), xF_1, rfl⟩
        case round =>
          obtain ⟨e, k, rfl, rfl, rfl, hek, he1, HE, _, rfl⟩ := hrel
          have hg0 := gcdI_pos (e : Int) b (by omega)
          have HGN := Lib.hid (show gcdI (e : Int) b = ((e.gcd b : Nat) : Int) from rfl)
          by_cases hgt : 1 < gcdI (e : Int) b
          · have hgz : (gcdI (e : Int) b == 0) = false := by simp; omega
            have HQ := Lib.hid (show (e : Int) / gcdI e b = ((e / e.gcd b : Nat) : Int) by rw [HGN.out]; rfl)
            have HRD := Lib.hid (HE.out.step (by have := HGN.out; omega))
            have hlt := Nat.div_lt_self (n := e) (k := e.gcd b) (by omega) (by have := HGN.out; omega)
            have hpos := HRD.out.1
            have q1 : 0 ≤ (e : Int) / gcdI e b ∧ (e : Int) / gcdI e b ≤ e := (by have := HQ.out; omega)
            go_wp2_with (go_at_call 48; refine (lgcd_any _ _ _ (by omega) (by omega) (by omega)).mono ?_; rintro e w' ⟨rfl, rfl⟩)
            go_roundw
            case rel => exact ⟨e / e.gcd b, k + 1, by rw [HQ.out], by go_num, by rw [HQ.out], by omega, hpos, HRD, xF_1, by first | rfl | trivial⟩
            case measure => simp only [intOf]; have := HQ.out; omega
          · have hg1 : e.gcd b = 1 := by have := HGN.out; omega
            by_cases h1 : e = 1
            · subst h1
              have HP := Lib.hid (perN_eq hd0 hb0 (per_zero HE.out))
              go_wp2
              go_ret3
              exact ⟨ret_3 (by rw [HR.out, HP.out]; rfl), B1⟩
            · have he2 : 1 < e := by omega
              have c1 : ((e : Int) == 1) = false := by simp; omega
              have cz : ((e : Int) == 0) = false := by simp; omega
              obtain ⟨q, q1, q2, q3⟩ := ord_ex (b := b) (e := e) he2 hb0 hg1
              have HQ3 := Lib.hid q3
              have HG1 := Lib.hid hg1
              have hbe1 := Int.emod_nonneg (b : Int) (show (e : Int) ≠ 0 by omega)
              have hbe2 := Int.emod_lt_of_pos (b : Int) (show (0 : Int) < e by omega)
              clear q3 hg1 h1
              go_wp2_with fail
              go_loopw [10, 11] (fun s10 s11 wr2 => ∃ (j : Nat) (x : Int), s11 = .int .i64 j ∧ s10 = .int .i64 x ∧ 0 ≤ x ∧ x < e ∧ 1 ≤ j ∧ j ≤ q ∧ Hid (x = ((b ^ j % e : Nat) : Int)) ∧ Hid (∀ i, 1 ≤ i → i < j → b ^ i % e ≠ 1) ∧ wr2 = wr) (fun _ s11 _ => q - (intOf s11).toNat)
              case atStart => exact ⟨1, _, rfl, rfl, hbe1, hbe2, Nat.le_refl _, q1, Lib.hid (by rw [Nat.pow_one]; rfl), Lib.hid (fun i h1 h2 => absurd h2 (by omega)), rfl⟩
              case round =>
                obtain ⟨j, x, rfl, rfl, hx0, hx1, hj1, hjq, HX, HA, rfl⟩ := hrel
                have hxb := mul_bd36 (x := x) (b := b) ⟨hx0, by omega⟩ (by omega)
                by_cases hx : x = 1
                · have HP := Lib.hid (perN_eq hd0 hb0 (per_ord HE.out hb0 he2 HG1.out hj1 (by have := HX.out; omega) HA.out))
                  have cx : (x != 1) = false := by simp [hx]
                  clear hx
                  go_wp2
                  go_ret3
                  exact ⟨ret_3 (by rw [HR.out, HP.out]), B1⟩
                · have cx : (x != 1) = true := by simp [hx]
                  have hlt : j < q := by
                    rcases Nat.lt_or_ge j q with c | c
                    · exact c
                    · obtain rfl : j = q := by omega
                      have := HX.out; have := HQ3.out; omega
                  have HX2 := Lib.hid (show x * b % e = ((b ^ (j + 1) % e : Nat) : Int) by rw [HX.out, ← Int.natCast_mul, ← Int.natCast_emod, Nat.mod_mul_mod, Nat.pow_succ])
                  have HA2 := Lib.hid (show ∀ i, 1 ≤ i → i < j + 1 → b ^ i % e ≠ 1 from fun i h1 h2 => by rcases Nat.lt_or_ge i j with c | c; exact HA.out i h1 c; obtain rfl : i = j := (by omega); intro h; exact hx (by rw [HX.out, h]; rfl))
                  have hxm1 := Int.emod_nonneg (x * b) (show (e : Int) ≠ 0 by omega)
                  have hxm2 := Int.emod_lt_of_pos (x * b) (show (0 : Int) < e by omega)
                  clear hx
                  go_wp2
                  go_roundw
                  case rel => exact ⟨j + 1, _, by go_num, rfl, hxm1, hxm2, by omega, by omega, HX2, HA2, by first | rfl | trivial⟩
                  case measure => simp only [intOf]; omega

end Go.Proofs.Ytbonlompmnhmiaa
