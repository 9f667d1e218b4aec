/- Some of the texts of this claim, joined in one file: OpenB, DfM, RgS, RgI, Fin. -/
import Derived.Test.YtndblondleclpaaGreatDoorRows
import Derived.Test.YtndblondleclpaaGreatDoorDraw
import Derived.ProofKit
import Derived.OpenShut
import Derived.ShutString
import Derived.ChangeOld
import Derived.Lib.SmallJoins
import Derived.Test.YtndblondleclpaaGreatDoorMB5
import Derived.Test.YtndblondleclpaaGreatDoorMB8
import Derived.Test.YtndblondleclpaaGreatDoorMB2
import Derived.Test.YtndblondleclpaaGreatDoorApp
import Derived.Test.YtndblondleclpaaGreatDoorMB3
import Derived.Test.YtndblondleclpaaGreatDoorNum
/- How a law's arguments are opened: slices of bytes. No condition. -/
namespace Go.Proofs.YtndblondleclpaaGreatDoor
open Go.RowKit Go.ChangeShapes Go.WideShapes Go.ChangeAt
open Go.Joins (open_agg2)
set_option linter.unusedVariables false
set_option linter.unusedSimpArgs false
set_option maxRecDepth 100000

theorem own : ownKnob Tryz.prog.godebug = none := by kernel_rfl
theorem laidOut : laidOutB Tryz.prog = true := by kernel_rfl

theorem u8_of_wf {x : Int} (h : (Lit.int .u8 x).wf = true) : 0 ≤ x ∧ x ≤ 255 := by
  have := bounds_u8 h
  omega
theorem SlB.nil (w : World) : SlB w (.slice none 0 0) [] := ⟨none, 0, rfl, Nat.le_refl _, by simp [maxLen], by simp, fun _ => rfl, .inl rfl⟩

section
variable {H : Type} {enc : TypeId × Value → H} {W : World}

theorem slB_of_trod {fuel : Nat} {v : Value} {y : DataW H × List MemPlace} (h : DataW.trod enc Tryz.prog W 0 (fun _ => true) true fuel 22 [v] = some y) : ∃ xs, SlB W v xs := by
  rcases open_ints Tryz.underlying22 Tryz.underlying5 (by kernel_rfl) h with ⟨hcs, _⟩ | ⟨x, l, c, zs, hcs, _, hl, hm, hz, _, hcell, hwz⟩
  · simp at hcs
    subst hcs
    exact ⟨[], SlB.nil W⟩
  · simp at hcs
    subst hcs
    have hz' : zs.length = c := by simpa using hz
    have hlen : (zs.take l).length = l := by simp; omega
    refine ⟨zs.take l, some x, c, by rw [hlen], by omega, hm, fun n hn => u8_of_wf (hwz n (List.mem_of_mem_take hn)), by simp, ?_⟩
    by_cases h0 : l = 0
    · left; subst h0; simp
    · right
      obtain ⟨b, off, spot⟩ := x
      have hc := hcell 0 (by omega)
      have hspot : spot = none := by simpa [Addr.add] using World.cell?_spot hc
      subst hspot
      refine ⟨b, off, rfl, fun i n hi => ?_⟩
      have hil : i < l := by have := (List.getElem?_eq_some_iff.1 hi).1; omega
      have hc := hcell i (by omega)
      rw [List.getElem?_take, if_pos hil] at hi
      have e : zs.getD i 0 = n := by simp [hi]
      rw [e] at hc
      rw [← hc]
      unfold Addr.add
      split
      · rename_i hi0; subst hi0; rfl
      · rfl

theorem bytes_of_trod {v : Value} {d : DataW H} {p : List MemPlace} {r : Reach} {b0 : Nat} (hv : Value.okWide Tryz.prog W r b0 22 v) (h : DataW.Trod enc Tryz.prog W 0 (fun _ => true) true 22 v d p) :
    ∃ xs, SlB W v xs := by
  obtain ⟨a, l, c, rfl⟩ := okWide_slice Tryz.underlying22 hv
  obtain ⟨fuel, hf⟩ := h
  exact slB_of_trod (by simpa [Value.cells] using hf)

end

end Go.Proofs.YtndblondleclpaaGreatDoor

/- Plain laws of digits: a fraction comes back from its digits and its period, a bound is the value. Each theorem names its conditions. -/
namespace Go.Proofs.YtndblondleclpaaGreatDoor
set_option linter.unusedVariables false
set_option linter.unusedSimpArgs false

/-- What is left after n digits. -/
def rstG (d b : Int) : Nat → Int → Int
  | 0, r => r
  | n + 1, r => rstG d b n (r * b % d)
theorem rstG_eq {d b : Int} (hd : 1 ≤ d) : ∀ (n : Nat) (r : Int), 0 ≤ r → r < d → rstG d b n r = r * b ^ n % d
  | 0, r, h1, h2 => by rw [rstG, Int.pow_zero, Int.mul_one, Int.emod_eq_of_lt h1 h2]
  | n + 1, r, h1, h2 => by
    rw [rstG, rstG_eq hd n _ (Int.emod_nonneg _ (by omega)) (Int.emod_lt_of_pos _ (by omega))]
    rw [Int.mul_emod, Int.emod_emod, ← Int.mul_emod, Int.pow_succ, Int.mul_assoc, Int.mul_comm b]
theorem rstG_bd {d b : Int} (hd : 1 ≤ d) (n : Nat) (r : Int) (h1 : 0 ≤ r) (h2 : r < d) : 0 ≤ rstG d b n r ∧ rstG d b n r < d := by
  rw [rstG_eq hd n r h1 h2]
  exact ⟨Int.emod_nonneg _ (by omega), Int.emod_lt_of_pos _ (by omega)⟩
theorem num_digs {d b : Int} : ∀ (n : Nat) (r a : Int), (digsG d b n r).foldl (fun n x => n * b + x) a * d + rstG d b n r = (a * d + r) * b ^ n
  | 0, r, a => by simp [digsG, rstG]
  | n + 1, r, a => by
    rw [digsG, rstG, List.foldl_cons, num_digs n]
    have h := Int.mul_ediv_add_emod (r * b) d
    have e : (a * b + r * b / d) * d + r * b % d = (a * d + r) * b := by
      rw [Int.add_mul, Int.add_mul, Int.add_assoc, Int.mul_comm (r * b / d) d, h, Int.mul_right_comm a b d]
    rw [e, Int.pow_succ, Int.mul_assoc, Int.mul_comm b]
theorem digs_add {d b : Int} : ∀ (m n : Nat) (r : Int), digsG d b (m + n) r = digsG d b m r ++ digsG d b n (rstG d b m r)
  | 0, n, r => by simp [digsG, rstG]
  | m + 1, n, r => by rw [show m + 1 + n = (m + n) + 1 by omega, digsG, digsG, rstG, digs_add m n]; rfl
theorem digs_dig {d b : Int} (hd : 1 ≤ d) (hb : 2 ≤ b) : ∀ (n : Nat) (r : Int), 0 ≤ r → r < d → ∀ x ∈ digsG d b n r, 0 ≤ x ∧ x < b
  | 0, r, _, _ => by simp [digsG]
  | n + 1, r, h1, h2 => by
    intro x hx
    rw [digsG] at hx
    rcases List.mem_cons.1 hx with rfl | hx
    · refine ⟨Int.ediv_nonneg (Int.mul_nonneg h1 (by omega)) (by omega), Int.ediv_lt_of_lt_mul (by omega) ?_⟩
      rw [Int.mul_comm b d]
      exact Int.mul_lt_mul_of_pos_right h2 (by omega)
    · exact digs_dig hd hb n _ (Int.emod_nonneg _ (by omega)) (Int.emod_lt_of_pos _ (by omega)) x hx
theorem digP_digs {d b : Int} (hd : 1 ≤ d) (hb : 2 ≤ b) (n : Nat) {r : Int} (h1 : 0 ≤ r) (h2 : r < d) : digP b (digsG d b n r) = true := by
  unfold digP
  rw [Bool.not_eq_true', List.any_eq_false]
  intro x hx
  have := digs_dig hd hb n r h1 h2 x hx
  rw [inB_iff.2 (show 0 ≤ x ∧ x ≤ b - 1 by omega)]
  decide

/-- A fraction is made plain from any of its forms. -/
theorem full_form {n d x y : Int} (h : okF n d = true) (hy : 0 < y) (e : x * d = n * y) : fullF x y = (n, d, 0) := by
  obtain ⟨⟨d1, d2⟩, ⟨n1, n2⟩, hg⟩ := okF_iff.1 h
  have hgn : Int.gcd n d = 1 := by unfold gcdI at hg; omega
  have hdv : d ∣ y := by
    have h1 : d ∣ n * y := ⟨x, by rw [← e, Int.mul_comm]⟩
    have h2 := Int.natAbs_dvd_natAbs.2 h1
    rw [Int.natAbs_mul] at h2
    have hc : Nat.Coprime d.natAbs n.natAbs := by rw [Nat.coprime_comm]; exact hgn
    exact Int.natAbs_dvd_natAbs.1 (hc.dvd_of_dvd_mul_left h2)
  obtain ⟨t, rfl⟩ := hdv
  have hx : x = n * t := by
    have : x * d = n * t * d := by rw [e, Int.mul_assoc, Int.mul_comm t d]
    exact Int.eq_of_mul_eq_mul_right (by omega) this
  subst hx
  have ht : 0 < t := by
    rcases Int.lt_trichotomy t 0 with c | c | c
    · have := Int.mul_neg_of_pos_of_neg (show 0 < d by omega) c; omega
    · subst c; omega
    · exact c
  have hgg : gcdI (n * t) (d * t) = t := by
    unfold gcdI
    rw [Int.gcd_mul_right, hgn, Nat.one_mul]
    omega
  have hl : lowF (n * t) (d * t) = (n, d) := by
    unfold lowF
    rw [hgg, Int.mul_ediv_cancel _ (by omega), Int.mul_ediv_cancel _ (by omega)]
  rw [fullF_eq (n * t) (d * t) n d (by rw [if_neg (by omega)]; exact hl), if_pos h]

/-- What DigitPeriod's success says. -/
theorem per_ok {n d b n' m' : Int} (h : perF n d b = (n', m', 0)) : okF n d = true ∧ (2 ≤ b ∧ b ≤ 36) ∧ ∃ s p : Nat, n' = s ∧ m' = p ∧ Per d.toNat b.toNat s p := by
  cases e1 : okF n d with
  | false => rw [per_bad e1] at h; simp at h
  | true =>
    cases e2 : inB b 2 36 with
    | false => rw [per_base e1 e2] at h; simp at h
    | true =>
      have hb := inB_iff.1 e2
      have hd := (okF_iff.1 e1).1
      by_cases e3 : d ≤ 100000
      · rw [perF, if_pos e1, if_pos e2, if_pos e3] at h
        refine ⟨rfl, hb, _, _, (Prod.mk.inj h).1.symm, (Prod.mk.inj (Prod.mk.inj h).2).1.symm, perN_is (by omega) (by omega)⟩
      · rw [per_big e1 e2 (by omega)] at h; simp at h

/-- The rest behind the period is that ahead of it. -/
theorem per_rest {d b r : Int} {s p : Nat} (hd : 1 ≤ d) (hb : 0 ≤ b) (h : Per d.toNat b.toNat s p) (h1 : 0 ≤ r) (h2 : r < d) :
    (p = 0 ∧ rstG d b s r = 0) ∨ (1 ≤ p ∧ rstG d b p (rstG d b s r) = rstG d b s r) := by
  obtain ⟨D, rfl⟩ := Int.eq_ofNat_of_zero_le (show 0 ≤ d by omega)
  obtain ⟨B, rfl⟩ := Int.eq_ofNat_of_zero_le hb
  simp only [Int.toNat_natCast] at h
  have hr := rstG_bd (b := (B : Int)) hd s r h1 h2
  rw [rstG_eq hd p _ hr.1 hr.2]
  rw [rstG_eq hd s r h1 h2]
  rcases h with ⟨hp, hdv, _⟩ | ⟨hp, _, he, _⟩
  · left
    refine ⟨hp, ?_⟩
    obtain ⟨k, hk⟩ := hdv
    have : (B : Int) ^ s = (D : Int) * (k : Int) := by exact_mod_cast hk
    rw [this]
    exact Int.emod_eq_zero_of_dvd ⟨r * k, by rw [Int.mul_left_comm]⟩
  · right
    refine ⟨hp, ?_⟩
    have he2 : (B : Int) ^ (s + p) % (D : Int) = (B : Int) ^ s % (D : Int) := by exact_mod_cast he
    rw [Int.mul_emod, Int.emod_emod, ← Int.mul_emod, Int.mul_assoc, ← Int.pow_add, Int.mul_emod, he2, ← Int.mul_emod]

theorem pow_gt {b : Int} (hb : 2 ≤ b) {p : Nat} (hp : 1 ≤ p) : 2 ≤ b ^ p := by
  have := pow_le hb hp
  rw [Int.pow_succ, Int.pow_zero, Int.one_mul] at this
  omega
/-- A fraction comes back from its digits. -/
theorem back_law {n d b : Int} {s p : Nat} (hok : okF n d = true) (hb : 2 ≤ b ∧ b ≤ 36) (hp : Per d.toNat b.toNat s p) :
    frDigF b (n / d) ((digsG d b (s + p) (n - n / d * d)).take s) ((digsG d b (s + p) (n - n / d * d)).drop s) = ((n, d), 0) ∨ frDigF b (n / d) ((digsG d b (s + p) (n - n / d * d)).take s) ((digsG d b (s + p) (n - n / d * d)).drop s) = ((0, 0), 5) := by
  obtain ⟨⟨d1, d2⟩, ⟨n1, n2⟩, hg⟩ := okF_iff.1 hok
  obtain ⟨r1, r2⟩ := rest_ok (n := n) (d := d) d1
  obtain ⟨r, hr⟩ : ∃ r, n - n / d * d = r := ⟨_, rfl⟩
  obtain ⟨q, hq⟩ : ∃ q, n / d = q := ⟨_, rfl⟩
  have hqb := floor_ok d1 ⟨n1, n2⟩
  rw [hr] at r1 r2 ⊢
  rw [hq] at hr hqb ⊢
  have hn : n = q * d + r := by omega
  obtain ⟨t1, t2⟩ := rstG_bd (b := b) d1 s r r1 r2
  have hper := per_rest d1 (by omega) hp r1 r2
  have hx : (digsG d b (s + p) r).take s = digsG d b s r := by
    rw [digs_add, List.take_left' (digsG_len _ _ _ _)]
  have hy : (digsG d b (s + p) r).drop s = digsG d b p (rstG d b s r) := by
    rw [digs_add, List.drop_left' (digsG_len _ _ _ _)]
  rw [hx, hy]
  have ha := num_digs (d := d) (b := b) s r 0
  have hbb := num_digs (d := d) (b := b) p (rstG d b s r) 0
  rw [Int.zero_mul, Int.zero_add] at ha hbb
  unfold frDigF
  rw [inB_iff.2 hb, inB_iff.2 (show -1000000000 ≤ q ∧ q ≤ 1000000000 by omega), digP_digs d1 hb.1 s r1 r2, digP_digs d1 hb.1 p t1 t2]
  simp only [Bool.and_self, if_true, digsG_len]
  split
  · left
    have hs1 := pow_pos' hb.1 s
    unfold numF
    rcases hper with ⟨rfl, h0⟩ | ⟨hp1, hpp⟩
    · rw [if_pos rfl]
      rw [h0, Int.add_zero] at ha
      rw [full_form hok (by omega) (show (q * b ^ s + List.foldl (fun n x => n * b + x) 0 (digsG d b s r)) * d = n * b ^ s by
        rw [Int.add_mul, ha, hn, Int.add_mul]; congr 1; rw [Int.mul_assoc, Int.mul_assoc, Int.mul_comm d])]
      rfl
    · rw [if_neg (by omega)]
      rw [hpp] at hbb
      have hg2 := pow_gt hb.1 hp1
      obtain ⟨X, hX⟩ : ∃ X, List.foldl (fun n x => n * b + x) 0 (digsG d b s r) = X := ⟨_, rfl⟩
      obtain ⟨Y, hY⟩ : ∃ Y, List.foldl (fun n x => n * b + x) 0 (digsG d b p (rstG d b s r)) = Y := ⟨_, rfl⟩
      obtain ⟨T, hT⟩ : ∃ T, rstG d b s r = T := ⟨_, rfl⟩
      rw [hT] at hbb hY ha
      rw [hX] at ha
      rw [hT, hX, hY]
      rw [hY] at hbb
      obtain ⟨S, hS⟩ : ∃ S, b ^ s = S := ⟨_, rfl⟩
      obtain ⟨P, hP⟩ : ∃ P, b ^ p = P := ⟨_, rfl⟩
      rw [hS] at hs1 ha ⊢
      rw [hP] at hg2 hbb ⊢
      have hpos : 0 < S * (P - 1) := Int.mul_pos (by omega) (by omega)
      rw [full_form hok hpos (show (q * (S * (P - 1)) + (X * (P - 1) + Y)) * d = n * (S * (P - 1)) by subst hn; grind)]
      rfl
  · right
    rfl

/-- The value of terms with bounds is one of the bounds. -/
theorem bnd_val {xs : List Int} {a b c e : Int} (h : bndTF xs = ((a, b), (c, e), 0)) : termsP xs = true ∧ ∃ fs x y, convL xs = some fs ∧ fs[xs.length - 1]? = some (x, y) ∧ fs.length = xs.length ∧ ((x = a ∧ y = b) ∨ (x = c ∧ y = e)) := by
  cases e1 : termsP xs with
  | false => rw [bndTF, e1] at h; simp at h
  | true =>
    refine ⟨rfl, ?_⟩
    rw [bndTF, e1] at h
    have h : bndF xs = (((a, b), (c, e)), 0) := by
      rw [if_pos rfl] at h
      have h1 := (Prod.mk.inj h).1
      have h2 := (Prod.mk.inj (Prod.mk.inj h).2)
      exact Prod.ext (Prod.ext h1 h2.1) h2.2
    have hl := (termsP_iff.1 e1).1
    cases hc : convL xs with
    | none => rw [bndF_none1 hc] at h; simp at h
    | some fs =>
      obtain ⟨x, y, hx, hxy, hfl⟩ := conv_last hc hl.1
      refine ⟨fs, x, y, rfl, hx, hfl, ?_⟩
      by_cases ht : xs.getD (xs.length - 1) 0 = 1000000000
      · rw [bndF_top ht] at h; simp at h
      · cases hc2 : convL (incL xs) with
        | none => rw [bndF_none2 hc2] at h; simp at h
        | some gs =>
          obtain ⟨u, v, hu, _, hgl⟩ := conv_last hc2 (by rw [incL_len]; exact hl.1)
          rw [incL_len] at hu
          rw [bndF_some hc ht hc2 hx hu] at h
          have h := (Prod.mk.inj h).1
          unfold ordF at h
          split at h
          · right
            have := (Prod.mk.inj h).2
            exact ⟨(Prod.mk.inj this).1, (Prod.mk.inj this).2⟩
          · left
            have := (Prod.mk.inj h).1
            exact ⟨(Prod.mk.inj this).1, (Prod.mk.inj this).2⟩
end Go.Proofs.YtndblondleclpaaGreatDoor

/- Texts of digits, as the reference reads them. Each theorem names its conditions. -/
namespace Go.Proofs.YtndblondleclpaaGreatDoor
open Go.RowKit
set_option linter.unusedVariables false
set_option linter.unusedSimpArgs false


theorem spl_len {c : UInt8} : ∀ (n : Nat) (l : List UInt8), l.length ≤ n → ∀ q ∈ spl c l, q.length ≤ l.length := by
  intro n
  induction n with
  | zero =>
    intro l h q hq
    obtain rfl := List.eq_nil_of_length_eq_zero (Nat.le_zero.1 h)
    simp [spl] at hq; subst hq; simp
  | succ n ih =>
    intro l h q hq
    rcases spl_cases c l with ⟨h1, e⟩ | ⟨x, y, rfl, ha, e⟩
    · rw [e] at hq; simp at hq; subst hq; exact Nat.le_refl _
    · rw [e] at hq
      rcases List.mem_cons.1 hq with rfl | hq
      · simp
      · have := ih y (by simp at h; omega) q hq
        simp; omega
theorem spl_num (c : UInt8) : ∀ l : List UInt8, (spl c l).length ≤ l.length + 1
  | [] => by simp [spl]
  | b :: l => by
    have := spl_num c l
    have h2 := List.length_pos_iff.2 (spl_ne c l)
    rw [spl]
    split
    · simp; omega
    · simp; omega
/-- What both return. -/
noncomputable def rdgF (base : Int) (l : List UInt8) : Int × List Int × Bool := match rdgS base l with
  | some x => (x.1, x.2, true)
  | none => (0, [], false)
theorem rdgF_none {base : Int} {l : List UInt8} (h : rdgS base l = none) : rdgF base l = (0, [], false) := by unfold rdgF; rw [h]
theorem rdgF_some {base wh : Int} {l : List UInt8} {ds : List Int} (h : rdgS base l = some (wh, ds)) : rdgF base l = (wh, ds, true) := by unfold rdgF; rw [h]
def RdgP (base : Int) (l : List UInt8) (w : World) (e : Ending) (w' : World) : Prop :=
  ∃ a c, e = .returned (.tuple #[.int .i64 (rdgF base l).1, .slice a (rdgF base l).2.1.length c, .bool (rdgF base l).2.2]) ∧ Own w' w.heap.size (.slice a (rdgF base l).2.1.length c) (rdgF base l).2.1 ∧ Bl w w'
theorem rdg_bad {base : Int} {l : List UInt8} {w w' : World} (h : rdgS base l = none) (hb : Bl w w') : RdgP base l w (.returned (.tuple #[.int .i64 0, .slice none 0 0, .bool false])) w' := by
  unfold RdgP
  rw [rdgF_none h]
  exact ⟨none, 0, rfl, Own.nil _ _, hb⟩
theorem rdg_good {base wh : Int} {l : List UInt8} {ds : List Int} {a : Option Addr} {c : Nat} {w w' : World} (h : rdgS base l = some (wh, ds)) (ho : Own w' w.heap.size (.slice a ds.length c) ds) (hb : Bl w w') :
    RdgP base l w (.returned (.tuple #[.int .i64 wh, .slice a ds.length c, .bool true])) w' := by
  unfold RdgP
  rw [rdgF_some h]
  exact ⟨a, c, rfl, ho, hb⟩
/-- The reference's tests. -/
theorem rs_n1 {base : Int} {l : List UInt8} (h : inB base 2 36 = false) : rdgS base l = none := by
  cases e : rdgS base l with
  | none => rfl
  | some x => obtain ⟨y, z⟩ := x; have := (rdgS_iff.1 e).1.b; rw [inB_iff.2 this] at h; cases h
theorem rs_n2 {base : Int} {l : List UInt8} (h : rdec (spl 46 l).head! = none) : rdgS base l = none := by unfold rdgS; rw [h]
theorem rs_n3 {base : Int} {l : List UInt8} (h : ¬ (spl 46 l).length ≤ 2) : rdgS base l = none := by
  unfold rdgS
  cases rdec (spl 46 l).head! with
  | none => rfl
  | some wh => simp only; rw [if_neg (fun q => h q.2.1)]
theorem rs_n4 {base wh : Int} {l : List UInt8} (h : rdec (spl 46 l).head! = some wh) (h2 : inB wh (-1000000000) 1000000000 = false) : rdgS base l = none := by
  unfold rdgS; rw [h]; simp only; rw [if_neg (fun q => by rw [inB_iff.2 q.2.2] at h2; cases h2)]
theorem rs_one {base wh : Int} {l : List UInt8} (h : rdec (spl 46 l).head! = some wh) (h1 : inB base 2 36 = true) (h2 : inB wh (-1000000000) 1000000000 = true) (h3 : (spl 46 l).length = 1) : rdgS base l = some (wh, []) := by
  unfold rdgS; rw [h]; simp only; rw [if_pos ⟨inB_iff.1 h1, by omega, inB_iff.1 h2⟩, if_neg (by omega)]
theorem rs_two {base wh : Int} {l a b : List UInt8} (h : rdec a = some wh) (h1 : inB base 2 36 = true) (h2 : inB wh (-1000000000) 1000000000 = true) (h3 : spl 46 l = [a, b]) (hb : b ≠ []) (hd : digP base (b.map dval) = true) (hl : b.length ≤ 1000) :
    rdgS base l = some (wh, b.map dval) := by
  unfold rdgS; rw [h3]
  simp only [head1, h, List.length_cons, List.length_nil]
  rw [if_pos ⟨inB_iff.1 h1, by decide, inB_iff.1 h2⟩, if_pos (by decide), if_pos]
  · rfl
  · refine ⟨hb, fun c hc => ?_, hl⟩
    have := digP_mem hd (dval c) (List.mem_map.2 ⟨c, hc, rfl⟩)
    omega
theorem rs_two_no {base wh : Int} {l a b : List UInt8} (h : rdec a = some wh) (h1 : inB base 2 36 = true) (h2 : inB wh (-1000000000) 1000000000 = true) (h3 : spl 46 l = [a, b]) (hb : ¬ (b ≠ [] ∧ digP base (b.map dval) = true ∧ b.length ≤ 1000)) :
    rdgS base l = none := by
  unfold rdgS; rw [h3]
  simp only [head1, h, List.length_cons, List.length_nil]
  rw [if_pos ⟨inB_iff.1 h1, by decide, inB_iff.1 h2⟩, if_pos (by decide), if_neg]
  intro q
  refine hb ⟨q.1, ?_, q.2.2⟩
  unfold digP
  have : ((b.map dval).any fun x => !inB x 0 (base - 1)) = false := List.any_eq_false.2 fun x hx => by
    obtain ⟨c, hc, rfl⟩ := List.mem_map.1 hx
    have := q.2.1 c hc
    simp [inB_iff.2 (show 0 ≤ dval c ∧ dval c ≤ base - 1 by omega)]
  rw [this]; rfl

set_option maxHeartbeats 800000 in
theorem lsd_any (c : UInt8) (w : World) : Calls Tryz.prog 102 #[.int .u8 (c.toNat : Int)] w fun e w' => e = .returned (.int .i64 (dval c)) ∧ w = w' := by
  have hc := c.toNat_lt
  by_cases h1 : 48 ≤ c.toNat ∧ c.toNat ≤ 57
  · have HX := Lib.hid (show (c.toNat : Int) - 48 = dval c by rw [dval, if_pos h1])
    have H1 := Lib.hid h1
    obtain ⟨h2, h3⟩ := h1
    go_enter Tryz.func102, Tryz.ntmps102
    go_wp2_with fail
    refine (ldig_yes H1.out _).mono ?_
    rintro e w' ⟨rfl, rfl⟩
    go_wp2
    go_ret
    exact ⟨by rw [← HX.out]; rfl, rfl⟩
  · have H1 := Lib.hid h1
    by_cases h4 : 97 ≤ c.toNat ∧ c.toNat ≤ 122
    · have HX := Lib.hid (show (c.toNat : Int) - 97 + 10 = dval c by rw [dval, if_neg h1, if_pos h4])
      have H4 := Lib.hid h4
      obtain ⟨h2, h3⟩ := h4
      clear h1
      go_enter Tryz.func102, Tryz.ntmps102
      go_wp2_with fail
      refine (ldig_no H1.out _).mono ?_
      rintro e w' ⟨rfl, rfl⟩
      go_wp2_with fail
      refine (lsml_yes H4.out _).mono ?_
      rintro e w' ⟨rfl, rfl⟩
      go_wp2
      go_ret
      exact ⟨by rw [← HX.out]; rfl, rfl⟩
    · have HX := Lib.hid (show (-1 : Int) = dval c by rw [dval, if_neg h1, if_neg h4])
      have H4 := Lib.hid h4
      clear h1 h4
      go_enter Tryz.func102, Tryz.ntmps102
      go_wp2_with fail
      refine (ldig_no H1.out _).mono ?_
      rintro e w' ⟨rfl, rfl⟩
      go_wp2_with fail
      refine (lsml_no H4.out _).mono ?_
      rintro e w' ⟨rfl, rfl⟩
      go_wp2
      go_ret
      exact ⟨by rw [← HX.out]; rfl, rfl⟩

set_option maxRecDepth 100000 in
set_option maxHeartbeats 12800000 in
theorem spec_ReadDigits (base : Int) (s : ByteArray) (w : World) (hs : s.size ≤ 1048576) :
    Calls Tryz.prog 40 #[.int .i64 base, .string s] w (RdgP base s.data.toList w) := by
  obtain ⟨l, hl⟩ : ∃ l, s.data.toList = l := ⟨_, rfl⟩
  have hln : l.length ≤ 1048576 := by rw [← hl, ← Lib.size_eq s]; exact hs
  have HL := Lib.hid hl
  clear hl
  obtain ⟨x0, rs, hsp⟩ := spl_cons 46 l
  have hx0 : x0.length ≤ 1048576 := by have := spl_len (c := 46) _ l (Nat.le_refl _) x0 (by rw [hsp]; simp); omega
  have HSP := Lib.hid hsp
  have HX0 := Lib.hid (show (spl 46 l).head! = x0 by rw [hsp]; rfl)
  obtain ⟨n, hn⟩ : ∃ n, rs.length + 1 = n := ⟨_, rfl⟩
  have HN := Lib.hid (show (spl 46 l).length = n by rw [hsp, ← hn]; rfl)
  have hnb : n ≤ 9223372036854775807 := by
    have := spl_num 46 l
    rw [hsp, List.length_cons, hn] at this
    omega
  have hn0 : 0 < n := by omega
  clear hsp
  obtain ⟨X, hX⟩ : ∃ X : ByteArray, (⟨x0.toArray⟩ : ByteArray) = X := ⟨_, rfl⟩
  have HXD := Lib.hid (show X.data.toList = x0 by rw [← hX])
  have HXX := Lib.hid hX
  have HXS := Lib.hid (show X.size ≤ 2000000 by rw [Lib.size_eq X, HXD.out]; omega)
  clear hX hn
  obtain ⟨o, ho⟩ : ∃ o, rdec x0 = o := ⟨_, rfl⟩
  have HRD := Lib.hid (show rdec (spl 46 l).head! = o by rw [HX0.out]; exact ho)
  have HRX := Lib.hid (show rdec X.data.toList = o by rw [HXD.out]; exact ho)
  have HR0 := Lib.hid ho
  clear ho
  rw [HL.out]
  cases o with
  | none =>
    have HB := Lib.hid (rs_n2 (base := base) HRD.out)
    cases qb : inB base 2 36 with
    | false =>
      have QB := Lib.hid qb
      clear qb
      go_enter Tryz.func40, Tryz.ntmps40
      go_wp2_with fail
      have HSPL := lspl_any s 46 w (by omega)
      rw [HL.out, HN.out] at HSPL
      refine HSPL.mono ?_
      clear HSPL
      rintro e w1 ⟨g, c, rfl, ho, B1⟩
      have HO := Lib.hid ho
      have hc0 : w1.cell? ⟨g, 0, none⟩ = some (.string X) := by rw [← HXX.out]; exact HO.out.cell (cS_get (by rw [HSP.out]; rfl))
      clear ho
      go_wp2_with fail
      have HNUM := lnum_any X w1 HXS.out
      rw [HRX.out] at HNUM
      refine HNUM.mono ?_
      clear HNUM
      rintro e w2 ⟨rfl, B2'⟩
      have B2 := bl_call B1 B2'
      go_wp2_with fail
      refine (sbase_eq QB.out _).mono ?_
      rintro e w9 ⟨rfl, rfl⟩
      go_wp2
      refine bodyPost_ret (v := .tuple #[.int .i64 0, .slice none 0 0, .bool false]) (by simp only [results, Tryz.results40]; go_simp) rfl ?_
      exact rdg_bad HB.out (bl_alloc B2 _)
    | true =>
      have QB := Lib.hid qb
      clear qb
      go_enter Tryz.func40, Tryz.ntmps40
      go_wp2_with fail
      have HSPL := lspl_any s 46 w (by omega)
      rw [HL.out, HN.out] at HSPL
      refine HSPL.mono ?_
      clear HSPL
      rintro e w1 ⟨g, c, rfl, ho, B1⟩
      have HO := Lib.hid ho
      have hc0 : w1.cell? ⟨g, 0, none⟩ = some (.string X) := by rw [← HXX.out]; exact HO.out.cell (cS_get (by rw [HSP.out]; rfl))
      clear ho
      go_wp2_with fail
      have HNUM := lnum_any X w1 HXS.out
      rw [HRX.out] at HNUM
      refine HNUM.mono ?_
      clear HNUM
      rintro e w2 ⟨rfl, B2'⟩
      have B2 := bl_call B1 B2'
      go_wp2_with fail
      refine (sbase_eq QB.out _).mono ?_
      rintro e w9 ⟨rfl, rfl⟩
      go_wp2
      refine bodyPost_ret (v := .tuple #[.int .i64 0, .slice none 0 0, .bool false]) (by simp only [results, Tryz.results40]; go_simp) rfl ?_
      exact rdg_bad HB.out (bl_alloc B2 _)
  | some wh =>
    cases qb : inB base 2 36 with
    | false =>
      have HB := Lib.hid (rs_n1 (l := l) qb)
      have QB := Lib.hid qb
      clear qb
      go_enter Tryz.func40, Tryz.ntmps40
      go_wp2_with fail
      have HSPL := lspl_any s 46 w (by omega)
      rw [HL.out, HN.out] at HSPL
      refine HSPL.mono ?_
      clear HSPL
      rintro e w1 ⟨g, c, rfl, ho, B1⟩
      have HO := Lib.hid ho
      have hc0 : w1.cell? ⟨g, 0, none⟩ = some (.string X) := by rw [← HXX.out]; exact HO.out.cell (cS_get (by rw [HSP.out]; rfl))
      clear ho
      go_wp2_with fail
      have HNUM := lnum_any X w1 HXS.out
      rw [HRX.out] at HNUM
      refine HNUM.mono ?_
      clear HNUM
      rintro e w2 ⟨rfl, B2'⟩
      have B2 := bl_call B1 B2'
      go_wp2_with fail
      refine (sbase_eq QB.out _).mono ?_
      rintro e w9 ⟨rfl, rfl⟩
      go_wp2
      refine bodyPost_ret (v := .tuple #[.int .i64 0, .slice none 0 0, .bool false]) (by simp only [results, Tryz.results40]; go_simp) rfl ?_
      exact rdg_bad HB.out (bl_alloc B2 _)
    | true =>
      have QB := Lib.hid qb
      have hbb := inB_iff.1 qb
      clear qb
      by_cases hn2 : 2 < n
      · have HB := Lib.hid (rs_n3 (base := base) (l := l) (by rw [HN.out]; omega))
        have hn2' : (2 : Int) < (n : Int) := by omega
        go_enter Tryz.func40, Tryz.ntmps40
        go_wp2_with fail
        have HSPL := lspl_any s 46 w (by omega)
        rw [HL.out, HN.out] at HSPL
        refine HSPL.mono ?_
        clear HSPL
        rintro e w1 ⟨g, c, rfl, ho, B1⟩
        have HO := Lib.hid ho
        have hc0 : w1.cell? ⟨g, 0, none⟩ = some (.string X) := by rw [← HXX.out]; exact HO.out.cell (cS_get (by rw [HSP.out]; rfl))
        clear ho
        go_wp2_with fail
        have HNUM := lnum_any X w1 HXS.out
        rw [HRX.out] at HNUM
        refine HNUM.mono ?_
        clear HNUM
        rintro e w2 ⟨rfl, B2'⟩
        have B2 := bl_call B1 B2'
        go_wp2_with fail
        refine (sbase_eq QB.out _).mono ?_
        rintro e w9 ⟨rfl, rfl⟩
        go_wp2
        refine bodyPost_ret (v := .tuple #[.int .i64 0, .slice none 0 0, .bool false]) (by simp only [results, Tryz.results40]; go_simp) rfl ?_
        exact rdg_bad HB.out (bl_alloc B2 _)
      · have hn2' : ¬ (2 : Int) < (n : Int) := by omega
        cases qw : inB wh (-1000000000) 1000000000 with
        | false =>
          have HB := Lib.hid (rs_n4 (base := base) HRD.out qw)
          have QW := Lib.hid qw
          clear qw
          go_enter Tryz.func40, Tryz.ntmps40
          go_wp2_with fail
          have HSPL := lspl_any s 46 w (by omega)
          rw [HL.out, HN.out] at HSPL
          refine HSPL.mono ?_
          clear HSPL
          rintro e w1 ⟨g, c, rfl, ho, B1⟩
          have HO := Lib.hid ho
          have hc0 : w1.cell? ⟨g, 0, none⟩ = some (.string X) := by rw [← HXX.out]; exact HO.out.cell (cS_get (by rw [HSP.out]; rfl))
          clear ho
          go_wp2_with fail
          have HNUM := lnum_any X w1 HXS.out
          rw [HRX.out] at HNUM
          refine HNUM.mono ?_
          clear HNUM
          rintro e w2 ⟨rfl, B2'⟩
          have B2 := bl_call B1 B2'
          go_wp2_with fail
          refine (sbase_eq QB.out _).mono ?_
          rintro e w9 ⟨rfl, rfl⟩
          go_wp2_with fail
          refine (in_eq' QW.out _).mono ?_
          rintro e w9 ⟨rfl, rfl⟩
          go_wp2
          refine bodyPost_ret (v := .tuple #[.int .i64 0, .slice none 0 0, .bool false]) (by simp only [results, Tryz.results40]; go_simp) rfl ?_
          exact rdg_bad HB.out (bl_alloc B2 _)
        | true =>
          have QW := Lib.hid qw
          clear qw
          by_cases hn1 : n = 1
          · have HG := Lib.hid (rs_one HRD.out QB.out QW.out (by rw [HN.out]; exact hn1))
            subst hn1
            have HD0 := Lib.hid (show digP base [] = true by rfl)
            go_enter Tryz.func40, Tryz.ntmps40
            go_wp2_with fail
            have HSPL := lspl_any s 46 w (by omega)
            rw [HL.out, HN.out] at HSPL
            refine HSPL.mono ?_
            clear HSPL
            rintro e w1 ⟨g, c, rfl, ho, B1⟩
            have HO := Lib.hid ho
            have hc0 : w1.cell? ⟨g, 0, none⟩ = some (.string X) := by rw [← HXX.out]; exact HO.out.cell (cS_get (by rw [HSP.out]; rfl))
            clear ho
            go_wp2_with fail
            have HNUM := lnum_any X w1 HXS.out
            rw [HRX.out] at HNUM
            refine HNUM.mono ?_
            clear HNUM
            rintro e w2 ⟨rfl, B2'⟩
            have B2 := bl_call B1 B2'
            go_wp2_with fail
            refine (sbase_eq QB.out _).mono ?_
            rintro e w9 ⟨rfl, rfl⟩
            go_wp2_with fail
            refine (in_eq' QW.out _).mono ?_
            rintro e w9 ⟨rfl, rfl⟩
            go_wp2_with fail
            have HO3 := Lib.hid (own_made (B := w.heap.size) w2 B2.size)
            refine (sdig_eq HD0.out _ hbb HO3.out.sl (by simp)).mono ?_
            rintro e w3 ⟨rfl, B3⟩
            have BB := bl_call (bl_alloc B2 _) B3
            go_wp2
            refine bodyPost_ret (v := .tuple #[.int .i64 wh, .slice (some ⟨w2.heap.size, 0, none⟩) 0 0, .bool true]) (by simp only [results, Tryz.results40]; go_simp) rfl ?_
            exact rdg_good HG.out (ds := []) (HO3.out.below B3) BB
          · obtain rfl : n = 2 := by omega
            obtain ⟨y, hy⟩ : ∃ y, spl 46 l = [x0, y] := by
              have h1 := HSP.out
              have h2 := HN.out
              rw [h1] at h2 ⊢
              match rs, h2 with
              | [y], _ => exact ⟨y, rfl⟩
            have HY := Lib.hid hy
            have hyl : y.length ≤ 1048576 := by have := spl_len (c := 46) _ l (Nat.le_refl _) y (by rw [hy]; simp); omega
            obtain ⟨Y, hY⟩ : ∃ Y : ByteArray, (⟨y.toArray⟩ : ByteArray) = Y := ⟨_, rfl⟩
            have HYD := Lib.hid (show Y.data.toList = y by rw [← hY])
            have HYY := Lib.hid hY
            have hYs : Y.size ≤ 1048576 := by rw [Lib.size_eq Y, HYD.out]; exact hyl
            clear hy hY hn1 hn2
            go_enter Tryz.func40, Tryz.ntmps40
            go_wp2_with fail
            have HSPL := lspl_any s 46 w (by omega)
            rw [HL.out, HN.out] at HSPL
            refine HSPL.mono ?_
            clear HSPL
            rintro e w1 ⟨g, c, rfl, ho, B1⟩
            have HO := Lib.hid ho
            have hc0 : w1.cell? ⟨g, 0, none⟩ = some (.string X) := by rw [← HXX.out]; exact HO.out.cell (cS_get (by rw [HSP.out]; rfl))
            clear ho
            go_wp2_with fail
            have HNUM := lnum_any X w1 HXS.out
            rw [HRX.out] at HNUM
            refine HNUM.mono ?_
            clear HNUM
            rintro e w2 ⟨rfl, B2'⟩
            have B2 := bl_call B1 B2'
            go_wp2_with fail
            refine (sbase_eq QB.out _).mono ?_
            rintro e w9 ⟨rfl, rfl⟩
            go_wp2_with fail
            refine (in_eq' QW.out _).mono ?_
            rintro e w9 ⟨rfl, rfl⟩
            go_wp2_with fail
            have HO3 := Lib.hid (own_made (B := w2.heap.size) w2 (Nat.le_refl _))
            have B3 := bl_alloc (bl_refl w2) (.cells #[] 2)
            have hcy : w1.cell? ⟨g, 1, none⟩ = some (.string Y) := by rw [← HYY.out]; exact HO.out.cell (cS_get (by rw [HY.out]; rfl))
            have HC1 := Lib.hid (show ∀ w', Bl w2 w' → w'.cell? ⟨g, 1, none⟩ = some (.string Y) from fun w' hb => ((bl_call B2' hb).cell (p := ⟨g, 1, none⟩) (cell_lt hcy)).trans hcy)
            clear hc0 hcy
            generalize hg3 : w2.heap.size = g3 at HO3 ⊢
            rw [← hg3] at HO3
            have HG3 := Lib.hid hg3
            clear hg3
            generalize w2.alloc (.cells #[] 2) = w3 at *
            go_loopw [10, 11] (fun s10 s11 wr => ∃ (xs : List Int) (a : Option Addr) (c k : Nat), s10 = .slice a xs.length c ∧ s11 = .int .i64 k ∧ k ≤ Y.size ∧ Own wr w2.heap.size (.slice a xs.length c) xs ∧ Hid (xs = (y.take k).map dval ∧ xs.length = k) ∧ Bl w2 wr) (fun _ s11 _ => Y.size - (intOf s11).toNat)
            case atStart => exact ⟨[], _, 0, 0, rfl, rfl, Nat.zero_le _, by rw [← HG3.out]; exact HO3.out, Lib.hid ⟨by simp, rfl⟩, B3⟩
            case round =>
              rcases hrel with ⟨xs, a, c4, k, rfl, rfl, hk, ho, hx, Bq⟩
              have HO4 := Lib.hid ho
              have HX4 := Lib.hid hx.out
              have HLX := Lib.hid (show xs.length ≤ 1048576 by have := hx.out.2; omega)
              clear ho hx
              have hcy := HC1.out _ Bq
              rcases Nat.lt_or_ge k Y.size with hlt | hge
              · obtain ⟨ch, hch⟩ : ∃ ch, Y[k] = ch := ⟨_, rfl⟩
                have HCH := Lib.hid (show y[k]? = some ch by rw [← HYD.out, ← hch]; exact str_ix hlt)
                go_wp2_with fail
                refine (lsd_any ch _).mono ?_
                rintro e w9 ⟨rfl, rfl⟩
                have hdr := dval_ge ch
                go_wp2_with (at_builtin; refine wpList_append_one rfl _ _ rfl w2.heap.size _ xs (by rfl) HO4.out _ (by unfold R64; omega) (by rfl) (by have := HLX.out; omega) (Bq.size) ?_; intro v' wn ho hg _; have BN := bl_grownX Bq hg (fun k hk => (HO4.out.lt k hk).1); clear hg; obtain ⟨xs2, hxs2⟩ : ∃ q, q = xs ++ [dval ch] := ⟨_, rfl⟩; rw [← hxs2] at ho; have HXS2 := Lib.hid hxs2; clear hxs2; obtain ⟨a1, c5, rfl, _⟩ := ho.form)
                have HO5 := Lib.hid ho
                clear ho
                go_wp2
                go_roundw
                case rel => exact ⟨xs2, a1, c5, k + 1, rfl, by simp, by omega, HO5.out, Lib.hid ⟨by rw [HXS2.out, HX4.out.1, List.take_add_one, HCH.out]; simp, by rw [HXS2.out, List.length_append, HX4.out.2]; rfl⟩, BN⟩
                case measure => simp only [intOf, Int.toNat_natCast]; omega
              · obtain rfl : k = Y.size := by omega
                have hyn : y.length = Y.size := by rw [← HYD.out]; exact (Lib.size_eq Y).symm
                have HE := Lib.hid (show xs = y.map dval by rw [HX4.out.1, List.take_of_length_le (by rw [hyn]; exact Nat.le_refl _)])
                have HYN := Lib.hid hyn
                have HXN := Lib.hid HX4.out.2
                clear hge hk hyn
                have BW := bl_call B2 Bq
                by_cases hy0 : xs.length = 0
                · have hq0 : ((xs.length : Int) == 0) = true := beq_iff_eq.2 (by omega)
                  have HB := Lib.hid (rs_two_no HR0.out QB.out QW.out HY.out (fun q => q.1 (List.eq_nil_of_length_eq_zero (by rw [HYN.out, ← HXN.out]; exact hy0))))
                  clear hy0
                  go_wp2
                  refine bodyPost_ret (v := .tuple #[.int .i64 0, .slice none 0 0, .bool false]) (by simp only [results, Tryz.results40]; go_simp) rfl ?_
                  exact rdg_bad HB.out BW
                · have hq0 : ((xs.length : Int) == 0) = false := beq_eq_false_iff_ne.2 (by omega)
                  have HY0 := Lib.hid (show y ≠ [] from fun q => hy0 (by rw [HXN.out, ← HYN.out, q]; rfl))
                  clear hy0
                  cases qd : digP base xs with
                  | false =>
                    have HB := Lib.hid (rs_two_no HR0.out QB.out QW.out HY.out (fun q => by rw [← HE.out, qd] at q; exact absurd q.2.1 (by decide)))
                    have QD := Lib.hid qd
                    clear qd
                    go_wp2_with fail
                    refine (sdig_eq QD.out _ hbb HO4.out.sl HLX.out).mono ?_
                    rintro e w5 ⟨rfl, B5⟩
                    go_wp2
                    refine bodyPost_ret (v := .tuple #[.int .i64 0, .slice none 0 0, .bool false]) (by simp only [results, Tryz.results40]; go_simp) rfl ?_
                    exact rdg_bad HB.out (bl_call BW B5)
                  | true =>
                    have QD := Lib.hid qd
                    clear qd
                    by_cases hm : 1000 < xs.length
                    · have hm2 : (1000 : Int) < (xs.length : Int) := by omega
                      have HB := Lib.hid (rs_two_no HR0.out QB.out QW.out HY.out (fun q => by have := q.2.2; have := HYN.out; have := HXN.out; omega))
                      clear hm
                      go_wp2_with fail
                      refine (sdig_eq QD.out _ hbb HO4.out.sl HLX.out).mono ?_
                      rintro e w5 ⟨rfl, B5⟩
                      go_wp2
                      refine bodyPost_ret (v := .tuple #[.int .i64 0, .slice none 0 0, .bool false]) (by simp only [results, Tryz.results40]; go_simp) rfl ?_
                      exact rdg_bad HB.out (bl_call BW B5)
                    · have hm2 : ¬ (1000 : Int) < (xs.length : Int) := by omega
                      have HG := Lib.hid (rs_two HR0.out QB.out QW.out HY.out HY0.out (by rw [← HE.out]; exact QD.out) (by have := HYN.out; have := HXN.out; omega))
                      clear hm
                      go_wp2_with fail
                      refine (sdig_eq QD.out _ hbb HO4.out.sl HLX.out).mono ?_
                      rintro e w5 ⟨rfl, B5⟩
                      go_wp2
                      refine bodyPost_ret (v := .tuple #[.int .i64 wh, .slice a xs.length c4, .bool true]) (by simp only [results, Tryz.results40]; go_simp) rfl ?_
                      exact rdg_good (by rw [HE.out]; exact HG.out) ((HO4.out.below B5).mono B2.size) (bl_call BW B5)

end Go.Proofs.YtndblondleclpaaGreatDoor

/- Texts of digits, as the program reads them. Each theorem names its conditions. -/
namespace Go.Proofs.YtndblondleclpaaGreatDoor
open Go.RowKit
set_option linter.unusedVariables false
set_option linter.unusedSimpArgs false

/-- The program's tests. -/
theorem ri_n2 {base : Int} {l h t : List UInt8} {f : Bool} (hc : Lib.cut l [46] = (h, t, f)) (e : rdec h = none) : rdgS base l = none := by
  rw [← rdg_eq]; unfold rdgI; rw [hc]; simp only; rw [e]
theorem ri_n3 {base : Int} {l h t : List UInt8} {f : Bool} (hc : Lib.cut l [46] = (h, t, f)) (e : ¬ t.length ≤ 1000) : rdgS base l = none := by
  rw [← rdg_eq]; unfold rdgI; rw [hc]; simp only
  cases rdec h with
  | none => rfl
  | some wh => simp only; rw [if_neg (fun q => e q.2.1)]
theorem ri_n4 {base : Int} {l h t : List UInt8} {f : Bool} {c : UInt8} {k : Nat} (hc : Lib.cut l [46] = (h, t, f)) (hk : t[k]? = some c) (e : dval c < 0) : rdgS base l = none := by
  rw [← rdg_eq]; unfold rdgI; rw [hc]; simp only
  cases rdec h with
  | none => rfl
  | some wh => simp only; rw [if_neg (fun q => by have := q.2.2.1 c (List.mem_of_getElem? hk); omega)]
theorem ri_n5 {base wh : Int} {l h t : List UInt8} {f : Bool} (hc : Lib.cut l [46] = (h, t, f)) (hr : rdec h = some wh) (e : dtxt base wh (t.map dval) ≠ l) : rdgS base l = none := by
  rw [← rdg_eq]; unfold rdgI; rw [hc]; simp only; rw [hr]; simp only
  rw [if_neg (fun q => e q.2.2.2)]
theorem ri_ok {base wh : Int} {l h t : List UInt8} {f : Bool} (hc : Lib.cut l [46] = (h, t, f)) (hr : rdec h = some wh) (hb : 2 ≤ base ∧ base ≤ 36) (hl : t.length ≤ 1000) (hd : ∀ c ∈ t, 0 ≤ dval c) (e : dtxt base wh (t.map dval) = l) : rdgS base l = some (wh, t.map dval) := by
  rw [← rdg_eq]; unfold rdgI; rw [hc]; simp only; rw [hr]; simp only
  rw [if_pos ⟨hb, hl, hd, e⟩]
theorem cut_le (l : List UInt8) (c : UInt8) : (Lib.cut l [c]).1.length ≤ l.length ∧ (Lib.cut l [c]).2.1.length ≤ l.length := by
  rcases cut_spl c l with ⟨_, e, _⟩ | ⟨a, b, rfl, _, e, _⟩
  · rw [e]; simp
  · rw [e]; simp; omega

set_option maxRecDepth 100000 in
set_option maxHeartbeats 12800000 in
theorem impl_ReadDigits (base : Int) (s : ByteArray) (w : World) (hs : s.size ≤ 1048576) (hE : Env w) :
    Calls Tryz.prog 38 #[.int .i64 base, .string s] w (RdgP base s.data.toList w) := by
  obtain ⟨l, hl⟩ : ∃ l, s.data.toList = l := ⟨_, rfl⟩
  have hln : l.length ≤ 1048576 := by rw [← hl, ← Lib.size_eq s]; exact hs
  have HL := Lib.hid hl
  have HE := Lib.hid hE
  clear hl hE
  obtain ⟨h, t, f, hcut⟩ : ∃ h t f, Lib.cut l [46] = (h, t, f) := ⟨_, _, _, rfl⟩
  have hcl := cut_le l 46
  rw [hcut] at hcl
  have HCUT := Lib.hid hcut
  obtain ⟨X, hX⟩ : ∃ X : ByteArray, (⟨h.toArray⟩ : ByteArray) = X := ⟨_, rfl⟩
  obtain ⟨Y, hY⟩ : ∃ Y : ByteArray, (⟨t.toArray⟩ : ByteArray) = Y := ⟨_, rfl⟩
  have HXD := Lib.hid (show X.data.toList = h by rw [← hX])
  have HYD := Lib.hid (show Y.data.toList = t by rw [← hY])
  have HXS := Lib.hid (show X.size ≤ 2000000 by rw [Lib.size_eq X, HXD.out]; have := hcl.1; simp at this; omega)
  have hYs : Y.size ≤ 1048576 := by rw [Lib.size_eq Y, HYD.out]; have := hcl.2; simp at this; omega
  have HYN := Lib.hid (show t.length = Y.size by rw [← HYD.out]; exact (Lib.size_eq Y).symm)
  have HX := Lib.hid hX
  have HY := Lib.hid hY
  clear hX hY hcl hcut
  obtain ⟨o, ho⟩ : ∃ o, rdec h = o := ⟨_, rfl⟩
  have HRX := Lib.hid (show rdec X.data.toList = o by rw [HXD.out]; exact ho)
  have HR0 := Lib.hid ho
  clear ho
  obtain ⟨m, hm⟩ := HE.out.mx
  have HM := Lib.hid hm
  clear hm
  rw [HL.out]
  cases o with
  | none =>
    have HB := Lib.hid (ri_n2 (base := base) HCUT.out HR0.out)
    go_enter Tryz.func38, Tryz.ntmps38
    go_wp2_with fail
    have HCC := Tryz.strings_Cut s ⟨#[46]⟩ m _ (by omega) HM.out
    rw [show Lib.cut s.data.toList (⟨#[46]⟩ : ByteArray).data.toList = (h, t, f) by rw [HL.out]; exact HCUT.out] at HCC
    simp only [HX.out, HY.out] at HCC
    refine HCC.mono ?_
    clear HCC
    rintro e w1 ⟨rfl, dn, rfl⟩
    have B1 : Bl w (w.drewN dn) := Drawn.below ⟨dn, rfl⟩ _
    generalize w.drewN dn = w1 at *
    go_wp2_with fail
    have HNUM := irdec_any X w1 HXS.out (HE.out.below B1)
    rw [HRX.out] at HNUM
    refine HNUM.mono ?_
    clear HNUM
    rintro e w2 ⟨rfl, B2'⟩
    have B2 := bl_call B1 B2'
    go_wp2
    refine bodyPost_ret (v := .tuple #[.int .i64 0, .slice none 0 0, .bool false]) (by simp only [results, Tryz.results38]; go_simp) rfl ?_
    exact rdg_bad HB.out B2
  | some wh =>
    cases qb : inB base 2 36 with
    | false =>
      have HB := Lib.hid (rs_n1 (l := l) qb)
      have QB := Lib.hid qb
      clear qb
      go_enter Tryz.func38, Tryz.ntmps38
      go_wp2_with fail
      have HCC := Tryz.strings_Cut s ⟨#[46]⟩ m _ (by omega) HM.out
      rw [show Lib.cut s.data.toList (⟨#[46]⟩ : ByteArray).data.toList = (h, t, f) by rw [HL.out]; exact HCUT.out] at HCC
      simp only [HX.out, HY.out] at HCC
      refine HCC.mono ?_
      clear HCC
      rintro e w1 ⟨rfl, dn, rfl⟩
      have B1 : Bl w (w.drewN dn) := Drawn.below ⟨dn, rfl⟩ _
      generalize w.drewN dn = w1 at *
      go_wp2_with fail
      have HNUM := irdec_any X w1 HXS.out (HE.out.below B1)
      rw [HRX.out] at HNUM
      refine HNUM.mono ?_
      clear HNUM
      rintro e w2 ⟨rfl, B2'⟩
      have B2 := bl_call B1 B2'
      go_wp2_with fail
      refine (ibase_eq QB.out _).mono ?_
      rintro e w9 ⟨rfl, rfl⟩
      go_wp2
      refine bodyPost_ret (v := .tuple #[.int .i64 0, .slice none 0 0, .bool false]) (by simp only [results, Tryz.results38]; go_simp) rfl ?_
      exact rdg_bad HB.out B2
    | true =>
      have QB := Lib.hid qb
      have hbb := inB_iff.1 qb
      clear qb
      by_cases hm : 1000 < Y.size
      · have HB := Lib.hid (ri_n3 (base := base) HCUT.out (by rw [HYN.out]; omega))
        have hm2 : (1000 : Int) < (Y.size : Int) := by omega
        go_enter Tryz.func38, Tryz.ntmps38
        go_wp2_with fail
        have HCC := Tryz.strings_Cut s ⟨#[46]⟩ m _ (by omega) HM.out
        rw [show Lib.cut s.data.toList (⟨#[46]⟩ : ByteArray).data.toList = (h, t, f) by rw [HL.out]; exact HCUT.out] at HCC
        simp only [HX.out, HY.out] at HCC
        refine HCC.mono ?_
        clear HCC
        rintro e w1 ⟨rfl, dn, rfl⟩
        have B1 : Bl w (w.drewN dn) := Drawn.below ⟨dn, rfl⟩ _
        generalize w.drewN dn = w1 at *
        go_wp2_with fail
        have HNUM := irdec_any X w1 HXS.out (HE.out.below B1)
        rw [HRX.out] at HNUM
        refine HNUM.mono ?_
        clear HNUM
        rintro e w2 ⟨rfl, B2'⟩
        have B2 := bl_call B1 B2'
        go_wp2_with fail
        refine (ibase_eq QB.out _).mono ?_
        rintro e w9 ⟨rfl, rfl⟩
        go_wp2
        refine bodyPost_ret (v := .tuple #[.int .i64 0, .slice none 0 0, .bool false]) (by simp only [results, Tryz.results38]; go_simp) rfl ?_
        exact rdg_bad HB.out B2
      · have hm2 : ¬ (1000 : Int) < (Y.size : Int) := by omega
        have hm3 : Y.size ≤ 1000 := by omega
        clear hm
        go_enter Tryz.func38, Tryz.ntmps38
        go_wp2_with fail
        have HCC := Tryz.strings_Cut s ⟨#[46]⟩ m _ (by omega) HM.out
        rw [show Lib.cut s.data.toList (⟨#[46]⟩ : ByteArray).data.toList = (h, t, f) by rw [HL.out]; exact HCUT.out] at HCC
        simp only [HX.out, HY.out] at HCC
        refine HCC.mono ?_
        clear HCC
        rintro e w1 ⟨rfl, dn, rfl⟩
        have B1 : Bl w (w.drewN dn) := Drawn.below ⟨dn, rfl⟩ _
        generalize w.drewN dn = w1 at *
        go_wp2_with fail
        have HNUM := irdec_any X w1 HXS.out (HE.out.below B1)
        rw [HRX.out] at HNUM
        refine HNUM.mono ?_
        clear HNUM
        rintro e w2 ⟨rfl, B2'⟩
        have B2 := bl_call B1 B2'
        go_wp2_with fail
        refine (ibase_eq QB.out _).mono ?_
        rintro e w9 ⟨rfl, rfl⟩
        go_wp2_with fail
        go_loopw [12, 13, 14, 40] (fun s12 _ _ s40 wr => ∃ (xs : List Int) (a : Option Addr) (c k : Nat), s12 = .slice a xs.length c ∧ s40 = .int .i64 k ∧ k ≤ Y.size ∧ Own wr w2.heap.size (.slice a xs.length c) xs ∧ Hid (xs = (t.take k).map dval ∧ xs.length = k ∧ ∀ c ∈ t.take k, 0 ≤ dval c) ∧ Bl w2 wr) (fun _ _ _ s40 _ => Y.size - (intOf s40).toNat)
        case atStart => exact ⟨[], none, 0, 0, rfl, rfl, Nat.zero_le _, Own.nil _ _, Lib.hid ⟨by simp, rfl, by simp⟩, bl_refl _⟩
        case round =>
          rcases hrel with ⟨xs, a, c4, k, rfl, rfl, hk, ho, hx, Bq⟩
          have HO4 := Lib.hid ho
          have HX4 := Lib.hid hx.out
          have HLX := Lib.hid (show xs.length ≤ 1000 by have := hx.out.2.1; omega)
          have BW := bl_call B2 Bq
          clear ho hx
          rcases Nat.lt_or_ge k Y.size with hlt | hge
          · obtain ⟨ch, hch⟩ : ∃ ch, Y[k] = ch := ⟨_, rfl⟩
            have HCH := Lib.hid (show t[k]? = some ch by rw [← HYD.out, ← hch]; exact str_ix hlt)
            have hc255 := ch.toNat_lt
            by_cases h1 : 48 ≤ ch.toNat ∧ ch.toNat ≤ 57
            · have HD := Lib.hid (show dval ch = (ch.toNat : Int) - 48 by rw [dval, if_pos h1])
              have H1 := Lib.hid h1
              obtain ⟨h2, h3⟩ := h1
              go_wp2_with fail
              refine (idig_yes H1.out _).mono ?_
              rintro e w9 ⟨rfl, rfl⟩
              go_wp2_with (at_builtin; refine wpList_append_one rfl _ _ rfl w2.heap.size _ xs (by rfl) HO4.out _ (by unfold R64; omega) (by rfl) (by have := HLX.out; omega) (Bq.size) ?_; intro v' wn ho hg _; have BN := bl_grownX Bq hg (fun k hk => (HO4.out.lt k hk).1); clear hg; obtain ⟨xs2, hxs2⟩ : ∃ q, q = xs ++ [(ch.toNat : Int) - 48] := ⟨_, rfl⟩; rw [← hxs2] at ho; have HXS2 := Lib.hid hxs2; clear hxs2; obtain ⟨a1, c5, rfl, _⟩ := ho.form)
              have HO5 := Lib.hid ho
              clear ho
              go_wp2
              go_roundw
              case rel => exact ⟨xs2, a1, c5, k + 1, rfl, by simp, by omega, HO5.out, Lib.hid ⟨by rw [HXS2.out, HX4.out.1, List.take_add_one, HCH.out, ← HD.out]; simp, by rw [HXS2.out, List.length_append, HX4.out.2.1]; rfl, by rw [List.take_add_one, HCH.out]; intro q hq; rcases List.mem_append.1 hq with hq | hq; exact HX4.out.2.2 q hq; simp at hq; subst hq; rw [HD.out]; omega⟩, BN⟩
              case measure => simp only [intOf, Int.toNat_natCast]; omega
            · have H1 := Lib.hid h1
              by_cases h4 : 97 ≤ ch.toNat ∧ ch.toNat ≤ 122
              · have HD := Lib.hid (show dval ch = (ch.toNat : Int) - 97 + 10 by rw [dval, if_neg h1, if_pos h4])
                have H4 := Lib.hid h4
                obtain ⟨h2, h3⟩ := h4
                clear h1
                go_wp2_with fail
                refine (idig_no H1.out _).mono ?_
                rintro e w9 ⟨rfl, rfl⟩
                go_wp2_with fail
                refine (isml_yes H4.out _).mono ?_
                rintro e w9 ⟨rfl, rfl⟩
                go_wp2_with (at_builtin; refine wpList_append_one rfl _ _ rfl w2.heap.size _ xs (by rfl) HO4.out _ (by unfold R64; omega) (by rfl) (by have := HLX.out; omega) (Bq.size) ?_; intro v' wn ho hg _; have BN := bl_grownX Bq hg (fun k hk => (HO4.out.lt k hk).1); clear hg; obtain ⟨xs2, hxs2⟩ : ∃ q, q = xs ++ [(ch.toNat : Int) - 97 + 10] := ⟨_, rfl⟩; rw [← hxs2] at ho; have HXS2 := Lib.hid hxs2; clear hxs2; obtain ⟨a1, c5, rfl, _⟩ := ho.form)
                have HO5 := Lib.hid ho
                clear ho
                go_wp2
                go_roundw
                case rel => exact ⟨xs2, a1, c5, k + 1, rfl, by simp, by omega, HO5.out, Lib.hid ⟨by rw [HXS2.out, HX4.out.1, List.take_add_one, HCH.out, ← HD.out]; simp, by rw [HXS2.out, List.length_append, HX4.out.2.1]; rfl, by rw [List.take_add_one, HCH.out]; intro q hq; rcases List.mem_append.1 hq with hq | hq; exact HX4.out.2.2 q hq; simp at hq; subst hq; rw [HD.out]; omega⟩, BN⟩
                case measure => simp only [intOf, Int.toNat_natCast]; omega
              · have HB := Lib.hid (ri_n4 (base := base) HCUT.out HCH.out (by rw [dval, if_neg h1, if_neg h4]; decide))
                have H4 := Lib.hid h4
                clear h1 h4
                go_wp2_with fail
                refine (idig_no H1.out _).mono ?_
                rintro e w9 ⟨rfl, rfl⟩
                go_wp2_with fail
                refine (isml_no H4.out _).mono ?_
                rintro e w9 ⟨rfl, rfl⟩
                go_wp2
                refine bodyPost_ret (v := .tuple #[.int .i64 0, .slice none 0 0, .bool false]) (by simp only [results, Tryz.results38]; go_simp) rfl ?_
                exact rdg_bad HB.out BW
          · obtain rfl : k = Y.size := by omega
            have HE2 := Lib.hid (show xs = t.map dval by rw [HX4.out.1, List.take_of_length_le (by rw [HYN.out]; exact Nat.le_refl _)])
            have HDD := Lib.hid (show ∀ c ∈ t, 0 ≤ dval c by have := HX4.out.2.2; rwa [List.take_of_length_le (by rw [HYN.out]; exact Nat.le_refl _)] at this)
            clear hge hk
            go_wp2_with fail
            refine (impl_DigitsText base wh _ xs _ HO4.out.sl (by have := HLX.out; omega) (HE.out.below BW).tab).mono ?_
            rintro e w5 ⟨rfl, B5⟩
            have BF := bl_call BW B5
            by_cases hq : dtxt base wh xs = l
            · have HG := Lib.hid (ri_ok HCUT.out HR0.out hbb (by rw [HYN.out]; exact hm3) HDD.out (by rw [← HE2.out]; exact hq))
              have hcmp : (dtxt base wh xs == s.toList) = true := by rw [ByteArray.toList_eq, HL.out]; exact beq_iff_eq.2 hq
              clear hq
              go_wp2
              refine bodyPost_ret (v := .tuple #[.int .i64 wh, .slice a xs.length c4, .bool true]) (by simp only [results, Tryz.results38]; go_simp) rfl ?_
              exact rdg_good (by rw [HE2.out]; exact HG.out) ((HO4.out.below B5).mono B2.size) BF
            · have HB := Lib.hid (ri_n5 (base := base) HCUT.out HR0.out (by rw [← HE2.out]; exact hq))
              have hcmp : (dtxt base wh xs == s.toList) = false := by rw [ByteArray.toList_eq, HL.out]; exact beq_eq_false_iff_ne.2 hq
              clear hq
              go_wp2
              refine bodyPost_ret (v := .tuple #[.int .i64 0, .slice none 0 0, .bool false]) (by simp only [results, Tryz.results38]; go_simp) rfl ?_
              exact rdg_bad HB.out BF

end Go.Proofs.YtndblondleclpaaGreatDoor

/- The laws' equality of lists of numbers. Each theorem names its conditions. -/
namespace Go.Proofs.YtndblondleclpaaGreatDoor
open Go.RowKit
set_option linter.unusedVariables false
set_option linter.unusedSimpArgs false

set_option maxHeartbeats 400000 in
theorem f6ints_any (va vb : Value) (xs ys : List Int) (w : World) (ha : Sl w va xs) (hb : Sl w vb ys) :
    Calls Tryz.prog 21 #[va, vb] w fun e w' => e = .returned (.bool (decide (xs = ys))) ∧ Drawn w w' := by
  have la := ha.len
  have lb := hb.len
  obtain ⟨a, ca, rfl, h1, h2, h3, h4, h5⟩ := ha
  obtain ⟨b, cb, rfl, g1, g2, g3, g4, g5⟩ := hb
  by_cases hl : xs.length = ys.length
  · have hne : ((xs.length : Int) != (ys.length : Int)) = false := by simp [hl]
    have HL := Lib.hid hl
    have hle : xs.length ≤ ys.length := by omega
    clear hl
    go_enter Tryz.func21, Tryz.ntmps21
    go_wp2
    go_loopw [5] (fun i wr => ∃ k : Nat, k ≤ xs.length ∧ i = .int .i64 k ∧ xs.take k = ys.take k ∧ Drawn w wr) (fun i _ => xs.length - (intOf i).toNat)
    case atStart => exact ⟨0, Nat.zero_le _, rfl, by simp, Drawn.refl _⟩
    case round =>
      obtain ⟨k, hk, rfl, ht, nd, rfl⟩ := hrel
      have HT := Lib.hid ht
      clear ht
      by_cases hlt : k < xs.length
      · rcases h5 with h5 | ⟨p, o, rfl, hc⟩
        · have : xs.length = 0 := by rw [h5]; rfl
          omega
        rcases g5 with g5 | ⟨q, r, rfl, gc⟩
        · have : ys.length = 0 := by rw [g5]; rfl
          omega
        obtain ⟨x, hx⟩ : ∃ x, xs[k]? = some x := ⟨_, List.getElem?_eq_getElem hlt⟩
        obtain ⟨y, hy⟩ : ∃ y, ys[k]? = some y := ⟨_, List.getElem?_eq_getElem (by omega)⟩
        have c1 : w.cell? ⟨p, o + k, none⟩ = some (.int .i64 x) := hc k x hx
        have c2 : w.cell? ⟨q, r + k, none⟩ = some (.int .i64 y) := gc k y hy
        have HX := Lib.hid hx
        have HY := Lib.hid hy
        have hkys : k < ys.length := by omega
        clear hx hy hc gc h3 g3 h4 g4
        by_cases hxy : x = y
        · subst hxy
          have hn : (x != x) = false := by simp
          go_wp2
          go_quiet (fail)
          go_wp2
          go_roundw
          case rel => exact ⟨k + 1, by omega, by go_num, by rw [List.take_add_one, List.take_add_one, HT.out, HX.out, HY.out], _, rfl⟩
          case measure => simp [intOf]; omega
        · have hn : (x != y) = true := by simp [hxy]
          go_wp2
          go_quiet (fail)
          go_wp2
          go_ret
          exact ⟨ret_bool (by
            refine (decide_eq_false ?_).symm
            intro e
            rw [e] at HX
            exact hxy (Option.some.inj (HX.out.symm.trans HY.out))), Drawn.more ⟨nd, rfl⟩ _⟩
      · go_wp2
        go_ret
        exact ⟨ret_bool (by
          refine (decide_eq_true ?_).symm
          have e := HT.out
          rw [List.take_of_length_le (by omega), List.take_of_length_le (by have := HL.out; omega)] at e
          exact e), nd, rfl⟩
  · have hne : ((xs.length : Int) != (ys.length : Int)) = true := by simp; omega
    go_enter Tryz.func21, Tryz.ntmps21
    go_wp2
    go_ret
    exact ⟨ret_bool (by refine (decide_eq_false ?_).symm; intro e; rw [e] at hl; exact hl rfl), Drawn.refl _⟩


end Go.Proofs.YtndblondleclpaaGreatDoor

