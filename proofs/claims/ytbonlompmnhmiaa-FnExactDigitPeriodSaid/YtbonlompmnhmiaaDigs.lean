/- The first digits of a fraction. Each theorem names its conditions. -/
import Derived.Test.YtbonlompmnhmiaaApp
namespace Go.Proofs.Ytbonlompmnhmiaa
open Go.RowKit
set_option linter.unusedVariables false
set_option linter.unusedSimpArgs false

/-- The first n digits of r / d in a base. -/
def digsG (d b : Int) : Nat → Int → List Int
  | 0, _ => []
  | n + 1, r => (r * b / d) :: digsG d b n (r * b % d)
theorem digsG_len (d b : Int) (n : Nat) : ∀ r, (digsG d b n r).length = n := by
  induction n with
  | zero => intro r; rfl
  | succ n ih => intro r; simp [digsG, ih]
theorem digsG_step {d b r : Int} {M : Nat} {xs T : List Int} (hk : xs.length < M) (h : xs ++ digsG d b (M - xs.length) r = T) : (xs ++ [r * b / d]) ++ digsG d b (M - (xs.length + 1)) (r * b % d) = T := by
  rw [show M - xs.length = (M - (xs.length + 1)) + 1 by omega, digsG] at h
  rw [← h]; simp
theorem digsG_end {d b r : Int} {M : Nat} {xs T : List Int} (hk : M ≤ xs.length) (h : xs ++ digsG d b (M - xs.length) r = T) : xs = T := by
  rw [show M - xs.length = 0 by omega, digsG, List.append_nil] at h
  exact h
theorem dig_bd {r b d : Int} (hd : 1 ≤ d ∧ d ≤ 1000000000) (hb : 2 ≤ b ∧ b ≤ 36) (hr : 0 ≤ r ∧ r < d) : 0 ≤ r * b ∧ r * b ≤ 36000000000 ∧ 0 ≤ r * b / d ∧ r * b / d ≤ 36000000000 ∧ 0 ≤ r * b % d ∧ r * b % d < d := by
  have a1 := Int.mul_nonneg hr.1 (show 0 ≤ b by omega)
  have a2 := Int.mul_le_mul (show r ≤ 1000000000 by omega) hb.2 (show 0 ≤ b by omega) (by omega)
  have a3 := Int.ediv_nonneg a1 (show 0 ≤ d by omega)
  have a4 := Int.ediv_le_self d a1
  exact ⟨a1, by omega, a3, by omega, Int.emod_nonneg _ (by omega), Int.emod_lt_of_pos _ (by omega)⟩

set_option maxRecDepth 100000 in
set_option maxHeartbeats 3200000 in
theorem fdigs_any (n d b : Int) (M : Nat) (w : World) (hd : 1 ≤ d ∧ d ≤ 1000000000) (hn : -1000000000 ≤ n ∧ n ≤ 1000000000) (hb : 2 ≤ b ∧ b ≤ 36) (hM : M ≤ 1000) :
    Calls Try.prog 58 #[.agg #[.int .i64 n, .int .i64 d], .int .i64 b, .int .i64 M] w fun e w' => ∃ a c, e = .returned (.tuple #[.int .i64 (n / d), .slice a M c]) ∧ Own w' w.heap.size (.slice a M c) (digsG d b M (n - n / d * d)) ∧ Bl w w' := by
  have hr : 0 ≤ n - n / d * d ∧ n - n / d * d < d := by
    have h1 := Int.emod_nonneg n (show d ≠ 0 by omega)
    have h2 := Int.emod_lt_of_pos n (show 0 < d by omega)
    have h3 := Int.mul_ediv_add_emod n d
    have h4 : n / d * d = d * (n / d) := Int.mul_comm _ _
    omega
  obtain ⟨T, hT⟩ : ∃ T, T = digsG d b M (n - n / d * d) := ⟨_, rfl⟩
  have hTl := Lib.hid (show T.length = M by rw [hT]; exact digsG_len _ _ _ _)
  rw [← hT]
  have HT := Lib.hid hT
  clear hT
  have hqb : -1000000000 ≤ n / d ∧ n / d ≤ 1000000000 := by
    have a := Int.mul_le_mul_of_nonneg_left (show 1 ≤ d by omega) (show (0 : Int) ≤ 1000000000 by omega)
    exact ⟨(Int.le_ediv_iff_mul_le (by omega)).2 (by omega), Int.ediv_le_of_le_mul (by omega) (by omega)⟩
  have hqd : n / d * d ≤ n ∧ n - d ≤ n / d * d := by omega
  go_enter Try.func58, Try.ntmps58
  go_wp2_with fail
  have B1 : Bl w (w.alloc (.cells #[.int .i64 n, .int .i64 d] 26)) := (bl_alloc (bl_refl _) _)
  have xF_1 : Bx (w.alloc (.cells #[.int .i64 n, .int .i64 d] 26)) (w.heap.size) #[.int .i64 n, .int .i64 d] := (Bx.new (b := w.heap.size) _ #[.int .i64 n, .int .i64 d] 26 (by first | rfl | simp))
  have zz1 : w.heap.size + 1 ≤ (w.alloc (.cells #[.int .i64 n, .int .i64 d] 26)).heap.size := (by simp)
  generalize (w.alloc (.cells #[.int .i64 n, .int .i64 d] 26)) = w1 at *
  obtain ⟨cF_1, fF_1, zF_1⟩ := xF_1.out
  refine (fdiv_any _ _ _ (by omega) (by omega) (by omega) (by omega)).mono ?_
  rintro e w9 ⟨rfl, rfl⟩
  go_wp2_with fail
  go_loopw [9, 10, 24] (fun s9 s10 s24 wr => ∃ (xs : List Int) (r : Int) (a : Option Addr) (c : Nat), s24 = .int .i64 xs.length ∧ s9 = .int .i64 r ∧ s10 = .slice a xs.length c ∧ xs.length ≤ M ∧ 0 ≤ r ∧ r < d ∧ Own wr w1.heap.size (.slice a xs.length c) xs ∧ Hid (xs ++ digsG d b (M - xs.length) r = T) ∧ Bx wr (w.heap.size) #[.int .i64 n, .int .i64 d] ∧ Bl w1 wr) (fun _ _ s24 _ => M - (intOf s24).toNat)
  case atStart => exact ⟨[], _, none, 0, rfl, rfl, rfl, Nat.zero_le _, by omega, by omega, Own.nil _ _, Lib.hid (by rw [HT.out]; rfl), xF_1, bl_refl _⟩
  case round =>
    rcases hrel with ⟨xs, r, a, c, rfl, rfl, rfl, hkM, hr1, hr2, ho, hx, yF, Bq⟩
    have Br : Bl w wr := bl_call B1 Bq
    have HO := Lib.hid ho
    clear ho cF_1 fF_1 zF_1
    obtain ⟨cF, fF, zF⟩ := yF.out
    have db := dig_bd hd hb ⟨hr1, hr2⟩
    obtain ⟨d1, d2, d3, d4, d5, d6⟩ := db
    rcases Nat.lt_or_ge xs.length M with hk | hk
    ·
      have HX := Lib.hid (digsG_step hk hx.out)
      go_wp2_with (at_builtin; refine wpList_append_one rfl _ _ rfl w1.heap.size _ xs (by rfl) HO.out _ (by unfold R64; omega) (by rfl) (by omega) (Bq.size) ?_; intro v' wn ho hg _; obtain ⟨a1, c1, rfl, _⟩ := ho.form; have xN := yF.grownApartF hg (fun q => by have := (HO.out.lt _ q).1; omega); clear cF fF zF; obtain ⟨cN, fN, zN⟩ := xN.out)
      have BN := bl_grown Bq hg (fun k hk => (HO.out.lt k hk).1)
      clear hg
      have HO2 := Lib.hid ho
      clear ho
      go_wp2
      go_roundw
      case rel => exact ⟨xs ++ [r * b / d], _, a1, c1, by simp, rfl, by simp, by simp; omega, d5, d6, HO2.out, by rw [List.length_append]; exact HX, xN, BN⟩
      case measure => clear HX; simp only [intOf, Int.toNat_natCast]; omega
    ·
      have HX := Lib.hid (digsG_end hk hx.out)
      have hkM2 : xs.length = M := by omega
      have HKM := Lib.hid hkM2
      clear hkM2
      go_wp2
      go_ret2
      have e := HX.out
      subst e
      have e2 := HKM.out
      subst e2
      exact ⟨a, c, rfl, HO.out.mono B1.size, Br⟩

set_option maxRecDepth 100000 in
set_option maxHeartbeats 3200000 in
theorem sdigs_any (r0 d b : Int) (M : Nat) (w : World) (hd : 1 ≤ d ∧ d ≤ 1000000000) (hr : 0 ≤ r0 ∧ r0 < d) (hb : 2 ≤ b ∧ b ≤ 36) (hM : M ≤ 1000) :
    Calls Try.prog 56 #[.int .i64 r0, .int .i64 d, .int .i64 b, .int .i64 M] w fun e w' => ∃ a c, e = .returned (.slice a M c) ∧ Own w' w.heap.size (.slice a M c) (digsG d b M r0) ∧ Bl w w' := by
  obtain ⟨T, hT⟩ : ∃ T, T = digsG d b M r0 := ⟨_, rfl⟩
  have hTl := Lib.hid (show T.length = M by rw [hT]; exact digsG_len _ _ _ _)
  rw [← hT]
  have HT := Lib.hid hT
  clear hT
  go_enter Try.func56, Try.ntmps56
  go_wp2
  go_loopw [0, 9, 10] (fun s0 s9 s10 wr => ∃ (xs : List Int) (r : Int) (a : Option Addr) (c : Nat), s10 = .int .i64 xs.length ∧ s0 = .int .i64 r ∧ s9 = .slice a xs.length c ∧ xs.length ≤ M ∧ 0 ≤ r ∧ r < d ∧ Own wr w.heap.size (.slice a xs.length c) xs ∧ Hid (xs ++ digsG d b (M - xs.length) r = T) ∧ Bl w wr) (fun _ _ s10 _ => M - (intOf s10).toNat)
  case atStart => exact ⟨[], r0, some ⟨w.heap.size, 0, none⟩, 0, rfl, rfl, rfl, Nat.zero_le _, hr.1, hr.2, own_made w (Nat.le_refl _), Lib.hid (by rw [HT.out]; rfl), bl_alloc (bl_refl _) _⟩
  case round =>
    rcases hrel with ⟨xs, r, a, c, rfl, rfl, rfl, hkM, hr1, hr2, ho, hx, Br⟩
    have HO := Lib.hid ho
    clear ho

    have db := dig_bd hd hb ⟨hr1, hr2⟩
    obtain ⟨d1, d2, d3, d4, d5, d6⟩ := db
    rcases Nat.lt_or_ge xs.length M with hk | hk
    ·
      have HX := Lib.hid (digsG_step hk hx.out)
      go_wp2_with (at_builtin; refine wpList_append_one rfl _ _ rfl w.heap.size _ xs (by rfl) HO.out _ (by unfold R64; omega) (by rfl) (by omega) (Br.size) ?_; intro v' wn ho hg _; obtain ⟨a1, c1, rfl, _⟩ := ho.form)
      have BN := bl_grown Br hg (fun k hk => (HO.out.lt k hk).1)
      clear hg
      have HO2 := Lib.hid ho
      clear ho
      go_wp2
      go_roundw
      case rel => exact ⟨xs ++ [r * b / d], _, a1, c1, by simp, rfl, by simp, by simp; omega, d5, d6, HO2.out, by rw [List.length_append]; exact HX, BN⟩
      case measure => clear HX; simp only [intOf, Int.toNat_natCast]; omega
    ·
      have HX := Lib.hid (digsG_end hk hx.out)
      have hkM2 : xs.length = M := by omega
      have HKM := Lib.hid hkM2
      clear hkM2
      go_wp2
      go_ret
      have e := HX.out
      subst e
      have e2 := HKM.out
      subst e2
      exact ⟨a, c, rfl, HO.out, Br⟩

end Go.Proofs.Ytbonlompmnhmiaa
