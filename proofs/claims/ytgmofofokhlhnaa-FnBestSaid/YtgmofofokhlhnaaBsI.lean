/- Best approximations: the program. Each theorem names its conditions. -/
import Derived.Test.YtgmofofokhlhnaaBsQ
import Derived.Test.YtgmofofokhlhnaaSecI
import Derived.Test.YtgmofofokhlhnaaLawFS
import Derived.Outline
namespace Go.Proofs.Ytgmofofokhlhnaa
open Go.RowKit
set_option linter.unusedVariables false
set_option linter.unusedSimpArgs false


theorem near_bdK {n d : Int} (hd : 0 < d) (q : Int) : 0 ≤ (nearF n d q).2.1 ∧ (nearF n d q).2.1 ≤ d := by
  have b := rest_bd (k := n * q) hd
  unfold nearF
  split
  · simp only []; omega
  · simp only []; omega

theorem prod_bdK2 {a c : Int} (h1 : 0 ≤ a ∧ a ≤ 1000001) (h2 : 0 ≤ c ∧ c ≤ 1000001) : -4000000000000 ≤ a * c ∧ a * c ≤ 4000000000000 := by
  have a1 := Int.mul_nonneg h1.1 h2.1
  have a2 := Int.mul_le_mul_of_nonneg_left h2.2 h1.1
  omega

theorem clo_first (a b c e : Int) (w : World) (h1 : -4000000000000 ≤ a * e ∧ a * e ≤ 4000000000000) (h2 : -4000000000000 ≤ c * b ∧ c * b ≤ 4000000000000) :
    Calls Try.prog 114 #[.int .i64 a, .int .i64 b, .int .i64 c, .int .i64 e] w fun r w' => r = .returned (.bool (lessK false a b c e)) ∧ w = w' := by
  have e1 : lessK false a b c e = decide (a * e < c * b) := rfl
  have HE := Lib.hid e1
  clear e1
  by_cases hlt : a * e < c * b
  · go_enter Try.func114, Try.ntmps114
    go_wp2
    go_ret
    exact ⟨ret_bool (by rw [HE.out]; simp [hlt]), rfl⟩
  · go_enter Try.func114, Try.ntmps114
    go_wp2
    go_ret
    exact ⟨ret_bool (by rw [HE.out]; simp; omega), rfl⟩
theorem clo_second (a b c e : Int) (w : World) :
    Calls Try.prog 115 #[.int .i64 a, .int .i64 b, .int .i64 c, .int .i64 e] w fun r w' => r = .returned (.bool (lessK true a b c e)) ∧ w = w' := by
  have e1 : lessK true a b c e = decide (a < c) := rfl
  have HE := Lib.hid e1
  clear e1
  by_cases hlt : a < c
  · go_enter Try.func115, Try.ntmps115
    go_wp2
    go_ret
    exact ⟨ret_bool (by rw [HE.out]; simp [hlt]), rfl⟩
  · go_enter Try.func115, Try.ntmps115
    go_wp2
    go_ret
    exact ⟨ret_bool (by rw [HE.out]; simp; omega), rfl⟩
noncomputable def bestsT (sec : Bool) (n d : Int) (M : Nat) : List (Int × Int) × Int := if 200 < (tgt sec n d M).length then ([], 5) else (tgt sec n d M, 0)
theorem bestsT_ok {sec : Bool} {n d : Int} {M : Nat} {L : List (Int × Int)} (h : L = tgt sec n d M) (hl : L.length ≤ 200) : bestsT sec n d M = (L, 0) := by
  subst h; unfold bestsT; rw [if_neg (by omega)]
theorem bestsT_full {sec : Bool} {n d : Int} {M q : Nat} {L : List (Int × Int)} (h : L = tgt sec n d q) (hl : 200 < L.length) (hq : q ≤ M) : bestsT sec n d M = ([], 5) := by
  subst h; unfold bestsT; rw [if_pos (by have := tgt_mono sec n d hq; omega)]
def BestsP (w : World) (F : List (Int × Int) × Int) (e : Ending) (w' : World) : Prop := ∃ a k c, e = .returned (.tuple #[.slice a k c, .int .i64 F.2]) ∧ OwnF w' w.heap.size (.slice a k c) F.1 ∧ Bl w w'
theorem bests_mk {w w' : World} {F : List (Int × Int) × Int} {a : Option Addr} {k c : Nat} {L : List (Int × Int)} {q : Int} (h : F = (L, q)) (ho : OwnF w' w.heap.size (.slice a k c) L) (hb : Bl w w') : BestsP w F (.returned (.tuple #[.slice a k c, .int .i64 q])) w' := by
  subst h; exact ⟨a, k, c, rfl, ho, hb⟩
/-- What holds at the head of the program's loop. -/
structure BMid (sec : Bool) (n d : Int) (q : Nat) (best over : Int) (L : List (Int × Int)) : Prop where
  list : L = tgt sec n d (q - 1)
  min : 2 ≤ q → MinK sec n d (q - 1) best over
  len : L.length ≤ 200
theorem BMid.first {sec : Bool} {n d best over : Int} {L : List (Int × Int)} (hd : 0 < d) (hg : gcdI n d = 1) {p dq : Int} {o : Bool} (hN : nearF n d ((1 : Nat) : Int) = (p, dq, o)) (h : BMid sec n d 1 best over L) : L = [] ∧ BMid sec n d 2 dq ((1 : Nat) : Int) (if o then [(p, ((1 : Nat) : Int))] else []) := by
  have h0 : L = [] := h.list
  refine ⟨h0, ?_⟩
  have hN : nearF n d 1 = (p, dq, o) := hN
  have t1 := tgt_first (sec := sec) hd hg
  have m1 := minK_one sec n d
  rw [hN] at t1 m1
  exact ⟨t1.symm, fun _ => m1, by split <;> simp⟩
theorem BMid.yes {sec : Bool} {n d best over : Int} {q : Nat} {L : List (Int × Int)} (hd : 0 < d) (hg : gcdI n d = 1) (hq : 2 ≤ q) (hqd : (q : Int) ≤ d) {p dq : Int} {o : Bool} (hN : nearF n d (q : Int) = (p, dq, o)) (h : BMid sec n d q best over L) (hl : lessK sec dq q best over = true) :
    MinK sec n d q dq q ∧ tgt sec n d q = if o then L ++ [(p, (q : Int))] else L := by
  obtain ⟨k, rfl⟩ : ∃ k, q = k + 1 := ⟨q - 1, by omega⟩
  have hm := h.min hq
  have hL := h.list
  simp only [Nat.add_sub_cancel] at hm hL
  have hl' : lessK sec (nearF n d ((k + 1 : Nat) : Int)).2.1 ((k + 1 : Nat) : Int) best over = true := by rw [hN]; exact hl
  have a1 := (minK_yes hd hm rfl hl').1
  have a2 := tgt_less hd hg hqd hm rfl hl'
  rw [hN] at a1 a2
  exact ⟨a1, by rw [a2, hL]⟩
theorem BMid.no {sec : Bool} {n d best over : Int} {q : Nat} {L : List (Int × Int)} (hd : 0 < d) (hg : gcdI n d = 1) (hq : 2 ≤ q) (hqd : (q : Int) ≤ d) {p dq : Int} {o : Bool} (hN : nearF n d (q : Int) = (p, dq, o)) (h : BMid sec n d q best over L) (hl : lessK sec dq q best over = false) : BMid sec n d (q + 1) best over L := by
  obtain ⟨k, rfl⟩ : ∃ k, q = k + 1 := ⟨q - 1, by omega⟩
  have hm := h.min hq
  have hL := h.list
  simp only [Nat.add_sub_cancel] at hm hL
  have hl' : lessK sec (nearF n d ((k + 1 : Nat) : Int)).2.1 ((k + 1 : Nat) : Int) best over = false := by rw [hN]; exact hl
  exact ⟨by simp only [Nat.add_sub_cancel]; rw [tgt_not hd hg hqd hm rfl hl', hL], fun _ => by simp only [Nat.add_sub_cancel]; exact minK_no hm rfl hl', h.len⟩
theorem BMid.next {sec : Bool} {n d : Int} {q : Nat} {dq : Int} {L' : List (Int × Int)} (hm : MinK sec n d q dq q) (ht : tgt sec n d q = L') (hl : L'.length ≤ 200) : BMid sec n d (q + 1) dq q L' :=
  ⟨by simp only [Nat.add_sub_cancel]; exact ht.symm, fun _ => by simp only [Nat.add_sub_cancel]; exact hm, hl⟩
theorem BMid.bd {sec : Bool} {n d best over : Int} {q : Nat} {L : List (Int × Int)} (hd : 0 < d) (hd2 : d ≤ 1000000) (h : BMid sec n d q best over L) (hq : 2 ≤ q) (hq2 : (q : Int) ≤ 1000001) : 0 ≤ best ∧ best ≤ 1000000 ∧ 1 ≤ over ∧ over ≤ 1000000 := by
  obtain ⟨h1, h2, h3, _⟩ := h.min hq
  have := near_bdK (n := n) hd over
  omega

set_option maxRecDepth 100000 in
set_option maxHeartbeats 12800000 in
theorem bests_lo_f (n d m : Int) (M : Nat) (w : World) (ok : okF n d = true) (hn : -1000000 ≤ n ∧ n ≤ 1000000) (hd : d ≤ 1000000) (hm : 1 ≤ m ∧ m ≤ 1000000) (hmd : m ≤ d) (hM : (M : Int) = m) :
    Calls Try.prog 113 #[.agg #[.int .i64 n, .int .i64 d], .int .i64 m, .func (.func 114) #[] #[]] w (BestsP w (bestsT false n d M)) := by
  have hok := okF_bd ok
  have hg := Lib.hid hok.2.2.2.2
  have hM1 : 1 ≤ M ∧ M ≤ 1000000 ∧ (M : Int) ≤ d := by omega
  have HM := Lib.hid hM
  clear ok hM
  have hd1 := hok.1
  clear hok
  go_enter Try.func113, Try.ntmps113
  go_wp2_with fail
  have Br1 : Bl w (w.alloc (.cells #[.int .i64 (n), .int .i64 (d)] 55)) := (bl_alloc (bl_refl _) _)
  have xF_r1 : Bx (w.alloc (.cells #[.int .i64 (n), .int .i64 (d)] 55)) (w.heap.size) #[.int .i64 (n), .int .i64 (d)] := (Bx.new (b := w.heap.size) _ #[.int .i64 (n), .int .i64 (d)] 55 (by first | rfl | simp))
  have zzr1 : w.heap.size + 1 ≤ (w.alloc (.cells #[.int .i64 (n), .int .i64 (d)] 55)).heap.size := (by simp)
  generalize (w.alloc (.cells #[.int .i64 (n), .int .i64 (d)] 55)) = wr1 at *
  obtain ⟨cF_r1, fF_r1, zF_r1⟩ := xF_r1.out
  clear cF_r1 fF_r1 zF_r1
  obtain ⟨c0, f0, z0⟩ := xF_r1.out
  go_wp2_with fail
  clear c0 f0 z0
  go_loopw [8, 9, 10, 11] (fun s8 s9 s10 s11 wr => ∃ (q : Nat) (best over : Int) (L : List (Int × Int)) (a : Option Addr) (c : Nat), s11 = .int .i64 q ∧ s9 = .int .i64 best ∧ s10 = .int .i64 over ∧ s8 = .slice a L.length c ∧ 1 ≤ q ∧ q ≤ M + 1 ∧ Hid (BMid false n d q best over L) ∧ L.length ≤ 200 ∧ OwnF wr wr1.heap.size (.slice a L.length c) L ∧ Bx wr w.heap.size #[.int .i64 n, .int .i64 d] ∧ Bl wr1 wr) (fun _ _ _ s11 _ => M + 1 - (intOf s11).toNat)
  case atStart => exact ⟨1, d, 1, [], none, 0, rfl, rfl, rfl, rfl, by omega, by omega, Lib.hid ⟨rfl, fun h => by omega, by simp⟩, by simp, OwnF.nil _ _, xF_r1, bl_refl _⟩
  case round =>
    obtain ⟨q, best, over, L, a, c, rfl, rfl, rfl, rfl, hq1, hq2, HB, hll, ho, xF, Br⟩ := hrel
    have B0 : Bl w wr := bl_call Br1 Br
    have HO := Lib.hid ho
    clear ho
    obtain ⟨c1, f1, z1⟩ := xF.out
    rcases Nat.lt_or_ge M q with hqM | hqM
    ·
      have HR := Lib.hid (bestsT_ok (M := M) (by rw [show M = q - 1 by omega]; exact HB.out.list) hll)
      have hle : ¬ (q : Int) ≤ m := by have := HM.out; omega
      go_wp2
      go_ret2
      exact bests_mk HR.out (HO.out.mono (by omega)) B0
    ·
      have hle : (q : Int) ≤ m := by have := HM.out; omega
      obtain ⟨p, dq, o, hN⟩ : ∃ p dq o, nearF n d (q : Int) = (p, dq, o) := ⟨_, _, _, rfl⟩
      have HN := Lib.hid hN
      have nb := near_bdK (n := n) (show 0 < d by omega) (q : Int)
      rw [hN] at nb
      simp only [] at nb
      clear hN
      rcases Nat.lt_or_ge 1 q with hq | hq
      ·
        have bb := HB.out.bd (by omega) hd (by omega) (by omega)
        have hqi : (1 : Int) < (q : Int) := by omega
        have hqd : (q : Int) ≤ d := by omega
        cases hl : lessK false dq q best over with
        | false =>
          have HL := Lib.hid hl
          have HB2 := Lib.hid (HB.out.no (by omega) hg.out (by omega) hqd HN.out hl)
          clear hl
          go_wp2_with fail
          refine (inear_eq HN.out _ hn ⟨by omega, hd⟩ (by omega)).mono ?_
          rintro e w9 ⟨rfl, hb9⟩
          have xF := xF.below hb9
          have HO := Lib.hid (HO.out.below hb9)
          have Br := bl_call Br hb9
          have B0 : Bl w w9 := bl_call Br1 Br
          clear c1 f1 z1
          obtain ⟨c1, f1, z1⟩ := xF.out
          go_wp2_with fail
          refine (clo_first dq q best over _ (prod_bdK2 (by omega) (by omega)) (prod_bdK2 (by omega) (by omega))).mono ?_
          rintro e w9 ⟨rfl, rfl⟩
          rw [HL.out]
          go_wp2
          go_roundw
          case rel => exact ⟨q + 1, best, over, L, a, c, by go_num, rfl, rfl, rfl, by omega, by omega, HB2, hll, HO.out, xF, Br⟩
          case measure => simp only [intOf]; omega
        | true =>
          have HL := Lib.hid hl
          have HY := Lib.hid (HB.out.yes (by omega) hg.out (by omega) hqd HN.out hl)
          clear hl
          cases o with
          | false =>
            have HB2 := Lib.hid (BMid.next HY.out.1 HY.out.2 hll)
            have hle2 : ¬ (200 : Int) < (L.length : Int) := by omega
            go_wp2_with fail
            refine (inear_eq HN.out _ hn ⟨by omega, hd⟩ (by omega)).mono ?_
            rintro e w9 ⟨rfl, hb9⟩
            have xF := xF.below hb9
            have HO := Lib.hid (HO.out.below hb9)
            have Br := bl_call Br hb9
            have B0 : Bl w w9 := bl_call Br1 Br
            clear c1 f1 z1
            obtain ⟨c1, f1, z1⟩ := xF.out
            go_wp2_with fail
            refine (clo_first dq q best over _ (prod_bdK2 (by omega) (by omega)) (prod_bdK2 (by omega) (by omega))).mono ?_
            rintro e w9 ⟨rfl, rfl⟩
            rw [HL.out]
            go_wp2
            go_roundw
            case rel => exact ⟨q + 1, dq, q, L, a, c, by go_num, rfl, rfl, rfl, by omega, by omega, HB2, hll, HO.out, xF, Br⟩
            case measure => simp only [intOf]; omega
          | true =>
            have hlen : (L ++ [(p, (q : Int))]).length = L.length + 1 := by simp
            have HLEN := Lib.hid hlen
            by_cases hfull : L.length = 200
            ·
              have HR := Lib.hid (bestsT_full (M := M) HY.out.2.symm (by simp; omega) hqM)
              have hle2 : (200 : Int) < (L.length : Int) + 1 := by omega
              have hle3 : 200 < L.length + 1 := by omega
              have hle4 : 199 < L.length := by omega
              clear hlen hfull
              go_wp2_with fail
              refine (inear_eq HN.out _ hn ⟨by omega, hd⟩ (by omega)).mono ?_
              rintro e w9 ⟨rfl, hb9⟩
              have xF := xF.below hb9
              have HO := Lib.hid (HO.out.below hb9)
              have Br := bl_call Br hb9
              have B0 : Bl w w9 := bl_call Br1 Br
              clear c1 f1 z1
              obtain ⟨c1, f1, z1⟩ := xF.out
              go_wp2_with fail
              refine (clo_first dq q best over _ (prod_bdK2 (by omega) (by omega)) (prod_bdK2 (by omega) (by omega))).mono ?_
              rintro e w9 ⟨rfl, rfl⟩
              rw [HL.out]
              go_wp2_with (at_builtin; refine wpList_append_frac rfl _ _ rfl wr1.heap.size _ L (by rfl) HO.out p q (by rfl) (by omega) Br.size ?_; intro v' wn ho hg2 _; obtain ⟨a1, c1', rfl, _⟩ := ho.form; have xN := xF.grownApartF hg2 (fun e => by have h1 := (HO.out.lt _ e).1; omega); clear c1 f1 z1; obtain ⟨cN, fN, zN⟩ := xN.out)
              (try rw [HLEN.out] at ho)
              (try rw [HLEN.out])
              go_wp2
              go_ret2
              exact bests_mk HR.out (OwnF.nil _ _) (bl_grown B0 hg2 (fun k hk => by have := (HO.out.lt k hk).1; omega))
            ·
              have HB2 := Lib.hid (BMid.next HY.out.1 HY.out.2 (by simp; omega))
              have hle2 : ¬ (200 : Int) < (L.length : Int) + 1 := by omega
              have hle3 : ¬ 200 < L.length + 1 := by omega
              have hl200 : L.length + 1 ≤ 200 := by omega
              clear hlen hfull
              go_wp2_with fail
              refine (inear_eq HN.out _ hn ⟨by omega, hd⟩ (by omega)).mono ?_
              rintro e w9 ⟨rfl, hb9⟩
              have xF := xF.below hb9
              have HO := Lib.hid (HO.out.below hb9)
              have Br := bl_call Br hb9
              have B0 : Bl w w9 := bl_call Br1 Br
              clear c1 f1 z1
              obtain ⟨c1, f1, z1⟩ := xF.out
              go_wp2_with fail
              refine (clo_first dq q best over _ (prod_bdK2 (by omega) (by omega)) (prod_bdK2 (by omega) (by omega))).mono ?_
              rintro e w9 ⟨rfl, rfl⟩
              rw [HL.out]
              go_wp2_with (at_builtin; refine wpList_append_frac rfl _ _ rfl wr1.heap.size _ L (by rfl) HO.out p q (by rfl) (by omega) Br.size ?_; intro v' wn ho hg2 _; obtain ⟨a1, c1', rfl, _⟩ := ho.form; have xN := xF.grownApartF hg2 (fun e => by have h1 := (HO.out.lt _ e).1; omega); clear c1 f1 z1; obtain ⟨cN, fN, zN⟩ := xN.out)
              rw [HLEN.out] at ho
              (try rw [HLEN.out])
              have HO3 := Lib.hid ho
              clear ho
              go_wp2
              go_roundw
              case rel => exact ⟨q + 1, dq, q, L ++ [(p, (q : Int))], a1, c1', by go_num, rfl, rfl, by rw [HLEN.out], by omega, by omega, HB2, by rw [HLEN.out]; exact hl200, by rw [HLEN.out]; exact HO3.out, xN, bl_grown Br hg2 (fun k hk => (HO.out.lt k hk).1)⟩
              case measure => simp only [intOf]; omega
      ·
        obtain rfl : q = 1 := by omega
        have HF := Lib.hid (HB.out.first (by omega) hg.out HN.out)
        obtain rfl : L = [] := HF.out.1
        have hqi : ¬ (1 : Int) < ((1 : Nat) : Int) := by omega
        cases o with
        | false =>
          have HB2 := Lib.hid (show BMid false n d 2 dq ((1 : Nat) : Int) [] from HF.out.2)
          go_wp2_with fail
          refine (inear_eq HN.out _ hn ⟨by omega, hd⟩ (by omega)).mono ?_
          rintro e w9 ⟨rfl, hb9⟩
          have xF := xF.below hb9
          have HO := Lib.hid (HO.out.below hb9)
          have Br := bl_call Br hb9
          have B0 : Bl w w9 := bl_call Br1 Br
          clear c1 f1 z1
          obtain ⟨c1, f1, z1⟩ := xF.out
          go_wp2
          go_roundw
          case rel => exact ⟨2, dq, 1, [], a, c, by go_num, rfl, rfl, rfl, by omega, by omega, HB2, hll, HO.out, xF, Br⟩
          case measure => simp only [intOf]; omega
        | true =>
          have HB2 := Lib.hid (show BMid false n d 2 dq ((1 : Nat) : Int) [(p, ((1 : Nat) : Int))] from HF.out.2)
          go_wp2_with fail
          refine (inear_eq HN.out _ hn ⟨by omega, hd⟩ (by omega)).mono ?_
          rintro e w9 ⟨rfl, hb9⟩
          have xF := xF.below hb9
          have HO := Lib.hid (HO.out.below hb9)
          have Br := bl_call Br hb9
          have B0 : Bl w w9 := bl_call Br1 Br
          clear c1 f1 z1
          obtain ⟨c1, f1, z1⟩ := xF.out
          go_wp2_with (at_builtin; refine wpList_append_frac rfl _ _ rfl wr1.heap.size _ [] (by rfl) HO.out p ((1 : Nat) : Int) (by rfl) (by omega) Br.size ?_; intro v' wn ho hg2 _; obtain ⟨a1, c1', rfl, _⟩ := ho.form; have xN := xF.grownApartF hg2 (fun e => by have h1 := (HO.out.lt _ e).1; omega); clear c1 f1 z1; obtain ⟨cN, fN, zN⟩ := xN.out)
          have HO3 := Lib.hid ho
          clear ho
          go_wp2
          go_roundw
          case rel => exact ⟨2, dq, 1, [(p, ((1 : Nat) : Int))], a1, c1', by go_num, rfl, rfl, rfl, by omega, by omega, HB2, by simp, HO3.out, xN, bl_grown Br hg2 (fun k hk => (HO.out.lt k hk).1)⟩
          case measure => simp only [intOf]; omega

set_option maxRecDepth 100000 in
set_option maxHeartbeats 12800000 in
theorem bests_hi_f (n d m : Int) (M : Nat) (w : World) (ok : okF n d = true) (hn : -1000000 ≤ n ∧ n ≤ 1000000) (hd : d ≤ 1000000) (hm : 1 ≤ m ∧ m ≤ 1000000) (hmd : d < m) (hM : (M : Int) = d) :
    Calls Try.prog 113 #[.agg #[.int .i64 n, .int .i64 d], .int .i64 m, .func (.func 114) #[] #[]] w (BestsP w (bestsT false n d M)) := by
  have hok := okF_bd ok
  have hg := Lib.hid hok.2.2.2.2
  have hM1 : 1 ≤ M ∧ M ≤ 1000000 ∧ (M : Int) ≤ d := by omega
  have HM := Lib.hid hM
  clear ok hM
  have hd1 := hok.1
  clear hok
  go_enter Try.func113, Try.ntmps113
  go_wp2_with fail
  have Br1 : Bl w (w.alloc (.cells #[.int .i64 (n), .int .i64 (d)] 55)) := (bl_alloc (bl_refl _) _)
  have xF_r1 : Bx (w.alloc (.cells #[.int .i64 (n), .int .i64 (d)] 55)) (w.heap.size) #[.int .i64 (n), .int .i64 (d)] := (Bx.new (b := w.heap.size) _ #[.int .i64 (n), .int .i64 (d)] 55 (by first | rfl | simp))
  have zzr1 : w.heap.size + 1 ≤ (w.alloc (.cells #[.int .i64 (n), .int .i64 (d)] 55)).heap.size := (by simp)
  generalize (w.alloc (.cells #[.int .i64 (n), .int .i64 (d)] 55)) = wr1 at *
  obtain ⟨cF_r1, fF_r1, zF_r1⟩ := xF_r1.out
  clear cF_r1 fF_r1 zF_r1
  obtain ⟨c0, f0, z0⟩ := xF_r1.out
  go_wp2_with fail
  clear c0 f0 z0
  go_loopw [8, 9, 10, 11] (fun s8 s9 s10 s11 wr => ∃ (q : Nat) (best over : Int) (L : List (Int × Int)) (a : Option Addr) (c : Nat), s11 = .int .i64 q ∧ s9 = .int .i64 best ∧ s10 = .int .i64 over ∧ s8 = .slice a L.length c ∧ 1 ≤ q ∧ q ≤ M + 1 ∧ Hid (BMid false n d q best over L) ∧ L.length ≤ 200 ∧ OwnF wr wr1.heap.size (.slice a L.length c) L ∧ Bx wr w.heap.size #[.int .i64 n, .int .i64 d] ∧ Bl wr1 wr) (fun _ _ _ s11 _ => M + 1 - (intOf s11).toNat)
  case atStart => exact ⟨1, d, 1, [], none, 0, rfl, rfl, rfl, rfl, by omega, by omega, Lib.hid ⟨rfl, fun h => by omega, by simp⟩, by simp, OwnF.nil _ _, xF_r1, bl_refl _⟩
  case round =>
    obtain ⟨q, best, over, L, a, c, rfl, rfl, rfl, rfl, hq1, hq2, HB, hll, ho, xF, Br⟩ := hrel
    have B0 : Bl w wr := bl_call Br1 Br
    have HO := Lib.hid ho
    clear ho
    obtain ⟨c1, f1, z1⟩ := xF.out
    rcases Nat.lt_or_ge M q with hqM | hqM
    ·
      have HR := Lib.hid (bestsT_ok (M := M) (by rw [show M = q - 1 by omega]; exact HB.out.list) hll)
      have hle : ¬ (q : Int) ≤ d := by have := HM.out; omega
      go_wp2
      go_ret2
      exact bests_mk HR.out (HO.out.mono (by omega)) B0
    ·
      have hle : (q : Int) ≤ d := by have := HM.out; omega
      obtain ⟨p, dq, o, hN⟩ : ∃ p dq o, nearF n d (q : Int) = (p, dq, o) := ⟨_, _, _, rfl⟩
      have HN := Lib.hid hN
      have nb := near_bdK (n := n) (show 0 < d by omega) (q : Int)
      rw [hN] at nb
      simp only [] at nb
      clear hN
      rcases Nat.lt_or_ge 1 q with hq | hq
      ·
        have bb := HB.out.bd (by omega) hd (by omega) (by omega)
        have hqi : (1 : Int) < (q : Int) := by omega
        have hqd : (q : Int) ≤ d := by omega
        cases hl : lessK false dq q best over with
        | false =>
          have HL := Lib.hid hl
          have HB2 := Lib.hid (HB.out.no (by omega) hg.out (by omega) hqd HN.out hl)
          clear hl
          go_wp2_with fail
          refine (inear_eq HN.out _ hn ⟨by omega, hd⟩ (by omega)).mono ?_
          rintro e w9 ⟨rfl, hb9⟩
          have xF := xF.below hb9
          have HO := Lib.hid (HO.out.below hb9)
          have Br := bl_call Br hb9
          have B0 : Bl w w9 := bl_call Br1 Br
          clear c1 f1 z1
          obtain ⟨c1, f1, z1⟩ := xF.out
          go_wp2_with fail
          refine (clo_first dq q best over _ (prod_bdK2 (by omega) (by omega)) (prod_bdK2 (by omega) (by omega))).mono ?_
          rintro e w9 ⟨rfl, rfl⟩
          rw [HL.out]
          go_wp2
          go_roundw
          case rel => exact ⟨q + 1, best, over, L, a, c, by go_num, rfl, rfl, rfl, by omega, by omega, HB2, hll, HO.out, xF, Br⟩
          case measure => simp only [intOf]; omega
        | true =>
          have HL := Lib.hid hl
          have HY := Lib.hid (HB.out.yes (by omega) hg.out (by omega) hqd HN.out hl)
          clear hl
          cases o with
          | false =>
            have HB2 := Lib.hid (BMid.next HY.out.1 HY.out.2 hll)
            have hle2 : ¬ (200 : Int) < (L.length : Int) := by omega
            go_wp2_with fail
            refine (inear_eq HN.out _ hn ⟨by omega, hd⟩ (by omega)).mono ?_
            rintro e w9 ⟨rfl, hb9⟩
            have xF := xF.below hb9
            have HO := Lib.hid (HO.out.below hb9)
            have Br := bl_call Br hb9
            have B0 : Bl w w9 := bl_call Br1 Br
            clear c1 f1 z1
            obtain ⟨c1, f1, z1⟩ := xF.out
            go_wp2_with fail
            refine (clo_first dq q best over _ (prod_bdK2 (by omega) (by omega)) (prod_bdK2 (by omega) (by omega))).mono ?_
            rintro e w9 ⟨rfl, rfl⟩
            rw [HL.out]
            go_wp2
            go_roundw
            case rel => exact ⟨q + 1, dq, q, L, a, c, by go_num, rfl, rfl, rfl, by omega, by omega, HB2, hll, HO.out, xF, Br⟩
            case measure => simp only [intOf]; omega
          | true =>
            have hlen : (L ++ [(p, (q : Int))]).length = L.length + 1 := by simp
            have HLEN := Lib.hid hlen
            by_cases hfull : L.length = 200
            ·
              have HR := Lib.hid (bestsT_full (M := M) HY.out.2.symm (by simp; omega) hqM)
              have hle2 : (200 : Int) < (L.length : Int) + 1 := by omega
              have hle3 : 200 < L.length + 1 := by omega
              have hle4 : 199 < L.length := by omega
              clear hlen hfull
              go_wp2_with fail
              refine (inear_eq HN.out _ hn ⟨by omega, hd⟩ (by omega)).mono ?_
              rintro e w9 ⟨rfl, hb9⟩
              have xF := xF.below hb9
              have HO := Lib.hid (HO.out.below hb9)
              have Br := bl_call Br hb9
              have B0 : Bl w w9 := bl_call Br1 Br
              clear c1 f1 z1
              obtain ⟨c1, f1, z1⟩ := xF.out
              go_wp2_with fail
              refine (clo_first dq q best over _ (prod_bdK2 (by omega) (by omega)) (prod_bdK2 (by omega) (by omega))).mono ?_
              rintro e w9 ⟨rfl, rfl⟩
              rw [HL.out]
              go_wp2_with (at_builtin; refine wpList_append_frac rfl _ _ rfl wr1.heap.size _ L (by rfl) HO.out p q (by rfl) (by omega) Br.size ?_; intro v' wn ho hg2 _; obtain ⟨a1, c1', rfl, _⟩ := ho.form; have xN := xF.grownApartF hg2 (fun e => by have h1 := (HO.out.lt _ e).1; omega); clear c1 f1 z1; obtain ⟨cN, fN, zN⟩ := xN.out)
              (try rw [HLEN.out] at ho)
              (try rw [HLEN.out])
              go_wp2
              go_ret2
              exact bests_mk HR.out (OwnF.nil _ _) (bl_grown B0 hg2 (fun k hk => by have := (HO.out.lt k hk).1; omega))
            ·
              have HB2 := Lib.hid (BMid.next HY.out.1 HY.out.2 (by simp; omega))
              have hle2 : ¬ (200 : Int) < (L.length : Int) + 1 := by omega
              have hle3 : ¬ 200 < L.length + 1 := by omega
              have hl200 : L.length + 1 ≤ 200 := by omega
              clear hlen hfull
              go_wp2_with fail
              refine (inear_eq HN.out _ hn ⟨by omega, hd⟩ (by omega)).mono ?_
              rintro e w9 ⟨rfl, hb9⟩
              have xF := xF.below hb9
              have HO := Lib.hid (HO.out.below hb9)
              have Br := bl_call Br hb9
              have B0 : Bl w w9 := bl_call Br1 Br
              clear c1 f1 z1
              obtain ⟨c1, f1, z1⟩ := xF.out
              go_wp2_with fail
              refine (clo_first dq q best over _ (prod_bdK2 (by omega) (by omega)) (prod_bdK2 (by omega) (by omega))).mono ?_
              rintro e w9 ⟨rfl, rfl⟩
              rw [HL.out]
              go_wp2_with (at_builtin; refine wpList_append_frac rfl _ _ rfl wr1.heap.size _ L (by rfl) HO.out p q (by rfl) (by omega) Br.size ?_; intro v' wn ho hg2 _; obtain ⟨a1, c1', rfl, _⟩ := ho.form; have xN := xF.grownApartF hg2 (fun e => by have h1 := (HO.out.lt _ e).1; omega); clear c1 f1 z1; obtain ⟨cN, fN, zN⟩ := xN.out)
              rw [HLEN.out] at ho
              (try rw [HLEN.out])
              have HO3 := Lib.hid ho
              clear ho
              go_wp2
              go_roundw
              case rel => exact ⟨q + 1, dq, q, L ++ [(p, (q : Int))], a1, c1', by go_num, rfl, rfl, by rw [HLEN.out], by omega, by omega, HB2, by rw [HLEN.out]; exact hl200, by rw [HLEN.out]; exact HO3.out, xN, bl_grown Br hg2 (fun k hk => (HO.out.lt k hk).1)⟩
              case measure => simp only [intOf]; omega
      ·
        obtain rfl : q = 1 := by omega
        have HF := Lib.hid (HB.out.first (by omega) hg.out HN.out)
        obtain rfl : L = [] := HF.out.1
        have hqi : ¬ (1 : Int) < ((1 : Nat) : Int) := by omega
        cases o with
        | false =>
          have HB2 := Lib.hid (show BMid false n d 2 dq ((1 : Nat) : Int) [] from HF.out.2)
          go_wp2_with fail
          refine (inear_eq HN.out _ hn ⟨by omega, hd⟩ (by omega)).mono ?_
          rintro e w9 ⟨rfl, hb9⟩
          have xF := xF.below hb9
          have HO := Lib.hid (HO.out.below hb9)
          have Br := bl_call Br hb9
          have B0 : Bl w w9 := bl_call Br1 Br
          clear c1 f1 z1
          obtain ⟨c1, f1, z1⟩ := xF.out
          go_wp2
          go_roundw
          case rel => exact ⟨2, dq, 1, [], a, c, by go_num, rfl, rfl, rfl, by omega, by omega, HB2, hll, HO.out, xF, Br⟩
          case measure => simp only [intOf]; omega
        | true =>
          have HB2 := Lib.hid (show BMid false n d 2 dq ((1 : Nat) : Int) [(p, ((1 : Nat) : Int))] from HF.out.2)
          go_wp2_with fail
          refine (inear_eq HN.out _ hn ⟨by omega, hd⟩ (by omega)).mono ?_
          rintro e w9 ⟨rfl, hb9⟩
          have xF := xF.below hb9
          have HO := Lib.hid (HO.out.below hb9)
          have Br := bl_call Br hb9
          have B0 : Bl w w9 := bl_call Br1 Br
          clear c1 f1 z1
          obtain ⟨c1, f1, z1⟩ := xF.out
          go_wp2_with (at_builtin; refine wpList_append_frac rfl _ _ rfl wr1.heap.size _ [] (by rfl) HO.out p ((1 : Nat) : Int) (by rfl) (by omega) Br.size ?_; intro v' wn ho hg2 _; obtain ⟨a1, c1', rfl, _⟩ := ho.form; have xN := xF.grownApartF hg2 (fun e => by have h1 := (HO.out.lt _ e).1; omega); clear c1 f1 z1; obtain ⟨cN, fN, zN⟩ := xN.out)
          have HO3 := Lib.hid ho
          clear ho
          go_wp2
          go_roundw
          case rel => exact ⟨2, dq, 1, [(p, ((1 : Nat) : Int))], a1, c1', by go_num, rfl, rfl, rfl, by omega, by omega, HB2, by simp, HO3.out, xN, bl_grown Br hg2 (fun k hk => (HO.out.lt k hk).1)⟩
          case measure => simp only [intOf]; omega

set_option maxRecDepth 100000 in
set_option maxHeartbeats 12800000 in
theorem bests_lo_s (n d m : Int) (M : Nat) (w : World) (ok : okF n d = true) (hn : -1000000 ≤ n ∧ n ≤ 1000000) (hd : d ≤ 1000000) (hm : 1 ≤ m ∧ m ≤ 1000000) (hmd : m ≤ d) (hM : (M : Int) = m) :
    Calls Try.prog 113 #[.agg #[.int .i64 n, .int .i64 d], .int .i64 m, .func (.func 115) #[] #[]] w (BestsP w (bestsT true n d M)) := by
  have hok := okF_bd ok
  have hg := Lib.hid hok.2.2.2.2
  have hM1 : 1 ≤ M ∧ M ≤ 1000000 ∧ (M : Int) ≤ d := by omega
  have HM := Lib.hid hM
  clear ok hM
  have hd1 := hok.1
  clear hok
  go_enter Try.func113, Try.ntmps113
  go_wp2_with fail
  have Br1 : Bl w (w.alloc (.cells #[.int .i64 (n), .int .i64 (d)] 55)) := (bl_alloc (bl_refl _) _)
  have xF_r1 : Bx (w.alloc (.cells #[.int .i64 (n), .int .i64 (d)] 55)) (w.heap.size) #[.int .i64 (n), .int .i64 (d)] := (Bx.new (b := w.heap.size) _ #[.int .i64 (n), .int .i64 (d)] 55 (by first | rfl | simp))
  have zzr1 : w.heap.size + 1 ≤ (w.alloc (.cells #[.int .i64 (n), .int .i64 (d)] 55)).heap.size := (by simp)
  generalize (w.alloc (.cells #[.int .i64 (n), .int .i64 (d)] 55)) = wr1 at *
  obtain ⟨cF_r1, fF_r1, zF_r1⟩ := xF_r1.out
  clear cF_r1 fF_r1 zF_r1
  obtain ⟨c0, f0, z0⟩ := xF_r1.out
  go_wp2_with fail
  clear c0 f0 z0
  go_loopw [8, 9, 10, 11] (fun s8 s9 s10 s11 wr => ∃ (q : Nat) (best over : Int) (L : List (Int × Int)) (a : Option Addr) (c : Nat), s11 = .int .i64 q ∧ s9 = .int .i64 best ∧ s10 = .int .i64 over ∧ s8 = .slice a L.length c ∧ 1 ≤ q ∧ q ≤ M + 1 ∧ Hid (BMid true n d q best over L) ∧ L.length ≤ 200 ∧ OwnF wr wr1.heap.size (.slice a L.length c) L ∧ Bx wr w.heap.size #[.int .i64 n, .int .i64 d] ∧ Bl wr1 wr) (fun _ _ _ s11 _ => M + 1 - (intOf s11).toNat)
  case atStart => exact ⟨1, d, 1, [], none, 0, rfl, rfl, rfl, rfl, by omega, by omega, Lib.hid ⟨rfl, fun h => by omega, by simp⟩, by simp, OwnF.nil _ _, xF_r1, bl_refl _⟩
  case round =>
    obtain ⟨q, best, over, L, a, c, rfl, rfl, rfl, rfl, hq1, hq2, HB, hll, ho, xF, Br⟩ := hrel
    have B0 : Bl w wr := bl_call Br1 Br
    have HO := Lib.hid ho
    clear ho
    obtain ⟨c1, f1, z1⟩ := xF.out
    rcases Nat.lt_or_ge M q with hqM | hqM
    ·
      have HR := Lib.hid (bestsT_ok (M := M) (by rw [show M = q - 1 by omega]; exact HB.out.list) hll)
      have hle : ¬ (q : Int) ≤ m := by have := HM.out; omega
      go_wp2
      go_ret2
      exact bests_mk HR.out (HO.out.mono (by omega)) B0
    ·
      have hle : (q : Int) ≤ m := by have := HM.out; omega
      obtain ⟨p, dq, o, hN⟩ : ∃ p dq o, nearF n d (q : Int) = (p, dq, o) := ⟨_, _, _, rfl⟩
      have HN := Lib.hid hN
      have nb := near_bdK (n := n) (show 0 < d by omega) (q : Int)
      rw [hN] at nb
      simp only [] at nb
      clear hN
      rcases Nat.lt_or_ge 1 q with hq | hq
      ·
        have bb := HB.out.bd (by omega) hd (by omega) (by omega)
        have hqi : (1 : Int) < (q : Int) := by omega
        have hqd : (q : Int) ≤ d := by omega
        cases hl : lessK true dq q best over with
        | false =>
          have HL := Lib.hid hl
          have HB2 := Lib.hid (HB.out.no (by omega) hg.out (by omega) hqd HN.out hl)
          clear hl
          go_wp2_with fail
          refine (inear_eq HN.out _ hn ⟨by omega, hd⟩ (by omega)).mono ?_
          rintro e w9 ⟨rfl, hb9⟩
          have xF := xF.below hb9
          have HO := Lib.hid (HO.out.below hb9)
          have Br := bl_call Br hb9
          have B0 : Bl w w9 := bl_call Br1 Br
          clear c1 f1 z1
          obtain ⟨c1, f1, z1⟩ := xF.out
          go_wp2_with fail
          refine (clo_second dq q best over _).mono ?_
          rintro e w9 ⟨rfl, rfl⟩
          rw [HL.out]
          go_wp2
          go_roundw
          case rel => exact ⟨q + 1, best, over, L, a, c, by go_num, rfl, rfl, rfl, by omega, by omega, HB2, hll, HO.out, xF, Br⟩
          case measure => simp only [intOf]; omega
        | true =>
          have HL := Lib.hid hl
          have HY := Lib.hid (HB.out.yes (by omega) hg.out (by omega) hqd HN.out hl)
          clear hl
          cases o with
          | false =>
            have HB2 := Lib.hid (BMid.next HY.out.1 HY.out.2 hll)
            have hle2 : ¬ (200 : Int) < (L.length : Int) := by omega
            go_wp2_with fail
            refine (inear_eq HN.out _ hn ⟨by omega, hd⟩ (by omega)).mono ?_
            rintro e w9 ⟨rfl, hb9⟩
            have xF := xF.below hb9
            have HO := Lib.hid (HO.out.below hb9)
            have Br := bl_call Br hb9
            have B0 : Bl w w9 := bl_call Br1 Br
            clear c1 f1 z1
            obtain ⟨c1, f1, z1⟩ := xF.out
            go_wp2_with fail
            refine (clo_second dq q best over _).mono ?_
            rintro e w9 ⟨rfl, rfl⟩
            rw [HL.out]
            go_wp2
            go_roundw
            case rel => exact ⟨q + 1, dq, q, L, a, c, by go_num, rfl, rfl, rfl, by omega, by omega, HB2, hll, HO.out, xF, Br⟩
            case measure => simp only [intOf]; omega
          | true =>
            have hlen : (L ++ [(p, (q : Int))]).length = L.length + 1 := by simp
            have HLEN := Lib.hid hlen
            by_cases hfull : L.length = 200
            ·
              have HR := Lib.hid (bestsT_full (M := M) HY.out.2.symm (by simp; omega) hqM)
              have hle2 : (200 : Int) < (L.length : Int) + 1 := by omega
              have hle3 : 200 < L.length + 1 := by omega
              have hle4 : 199 < L.length := by omega
              clear hlen hfull
              go_wp2_with fail
              refine (inear_eq HN.out _ hn ⟨by omega, hd⟩ (by omega)).mono ?_
              rintro e w9 ⟨rfl, hb9⟩
              have xF := xF.below hb9
              have HO := Lib.hid (HO.out.below hb9)
              have Br := bl_call Br hb9
              have B0 : Bl w w9 := bl_call Br1 Br
              clear c1 f1 z1
              obtain ⟨c1, f1, z1⟩ := xF.out
              go_wp2_with fail
              refine (clo_second dq q best over _).mono ?_
              rintro e w9 ⟨rfl, rfl⟩
              rw [HL.out]
              go_wp2_with (at_builtin; refine wpList_append_frac rfl _ _ rfl wr1.heap.size _ L (by rfl) HO.out p q (by rfl) (by omega) Br.size ?_; intro v' wn ho hg2 _; obtain ⟨a1, c1', rfl, _⟩ := ho.form; have xN := xF.grownApartF hg2 (fun e => by have h1 := (HO.out.lt _ e).1; omega); clear c1 f1 z1; obtain ⟨cN, fN, zN⟩ := xN.out)
              (try rw [HLEN.out] at ho)
              (try rw [HLEN.out])
              go_wp2
              go_ret2
              exact bests_mk HR.out (OwnF.nil _ _) (bl_grown B0 hg2 (fun k hk => by have := (HO.out.lt k hk).1; omega))
            ·
              have HB2 := Lib.hid (BMid.next HY.out.1 HY.out.2 (by simp; omega))
              have hle2 : ¬ (200 : Int) < (L.length : Int) + 1 := by omega
              have hle3 : ¬ 200 < L.length + 1 := by omega
              have hl200 : L.length + 1 ≤ 200 := by omega
              clear hlen hfull
              go_wp2_with fail
              refine (inear_eq HN.out _ hn ⟨by omega, hd⟩ (by omega)).mono ?_
              rintro e w9 ⟨rfl, hb9⟩
              have xF := xF.below hb9
              have HO := Lib.hid (HO.out.below hb9)
              have Br := bl_call Br hb9
              have B0 : Bl w w9 := bl_call Br1 Br
              clear c1 f1 z1
              obtain ⟨c1, f1, z1⟩ := xF.out
              go_wp2_with fail
              refine (clo_second dq q best over _).mono ?_
              rintro e w9 ⟨rfl, rfl⟩
              rw [HL.out]
              go_wp2_with (at_builtin; refine wpList_append_frac rfl _ _ rfl wr1.heap.size _ L (by rfl) HO.out p q (by rfl) (by omega) Br.size ?_; intro v' wn ho hg2 _; obtain ⟨a1, c1', rfl, _⟩ := ho.form; have xN := xF.grownApartF hg2 (fun e => by have h1 := (HO.out.lt _ e).1; omega); clear c1 f1 z1; obtain ⟨cN, fN, zN⟩ := xN.out)
              rw [HLEN.out] at ho
              (try rw [HLEN.out])
              have HO3 := Lib.hid ho
              clear ho
              go_wp2
              go_roundw
              case rel => exact ⟨q + 1, dq, q, L ++ [(p, (q : Int))], a1, c1', by go_num, rfl, rfl, by rw [HLEN.out], by omega, by omega, HB2, by rw [HLEN.out]; exact hl200, by rw [HLEN.out]; exact HO3.out, xN, bl_grown Br hg2 (fun k hk => (HO.out.lt k hk).1)⟩
              case measure => simp only [intOf]; omega
      ·
        obtain rfl : q = 1 := by omega
        have HF := Lib.hid (HB.out.first (by omega) hg.out HN.out)
        obtain rfl : L = [] := HF.out.1
        have hqi : ¬ (1 : Int) < ((1 : Nat) : Int) := by omega
        cases o with
        | false =>
          have HB2 := Lib.hid (show BMid true n d 2 dq ((1 : Nat) : Int) [] from HF.out.2)
          go_wp2_with fail
          refine (inear_eq HN.out _ hn ⟨by omega, hd⟩ (by omega)).mono ?_
          rintro e w9 ⟨rfl, hb9⟩
          have xF := xF.below hb9
          have HO := Lib.hid (HO.out.below hb9)
          have Br := bl_call Br hb9
          have B0 : Bl w w9 := bl_call Br1 Br
          clear c1 f1 z1
          obtain ⟨c1, f1, z1⟩ := xF.out
          go_wp2
          go_roundw
          case rel => exact ⟨2, dq, 1, [], a, c, by go_num, rfl, rfl, rfl, by omega, by omega, HB2, hll, HO.out, xF, Br⟩
          case measure => simp only [intOf]; omega
        | true =>
          have HB2 := Lib.hid (show BMid true n d 2 dq ((1 : Nat) : Int) [(p, ((1 : Nat) : Int))] from HF.out.2)
          go_wp2_with fail
          refine (inear_eq HN.out _ hn ⟨by omega, hd⟩ (by omega)).mono ?_
          rintro e w9 ⟨rfl, hb9⟩
          have xF := xF.below hb9
          have HO := Lib.hid (HO.out.below hb9)
          have Br := bl_call Br hb9
          have B0 : Bl w w9 := bl_call Br1 Br
          clear c1 f1 z1
          obtain ⟨c1, f1, z1⟩ := xF.out
          go_wp2_with (at_builtin; refine wpList_append_frac rfl _ _ rfl wr1.heap.size _ [] (by rfl) HO.out p ((1 : Nat) : Int) (by rfl) (by omega) Br.size ?_; intro v' wn ho hg2 _; obtain ⟨a1, c1', rfl, _⟩ := ho.form; have xN := xF.grownApartF hg2 (fun e => by have h1 := (HO.out.lt _ e).1; omega); clear c1 f1 z1; obtain ⟨cN, fN, zN⟩ := xN.out)
          have HO3 := Lib.hid ho
          clear ho
          go_wp2
          go_roundw
          case rel => exact ⟨2, dq, 1, [(p, ((1 : Nat) : Int))], a1, c1', by go_num, rfl, rfl, rfl, by omega, by omega, HB2, by simp, HO3.out, xN, bl_grown Br hg2 (fun k hk => (HO.out.lt k hk).1)⟩
          case measure => simp only [intOf]; omega

set_option maxRecDepth 100000 in
set_option maxHeartbeats 12800000 in
theorem bests_hi_s (n d m : Int) (M : Nat) (w : World) (ok : okF n d = true) (hn : -1000000 ≤ n ∧ n ≤ 1000000) (hd : d ≤ 1000000) (hm : 1 ≤ m ∧ m ≤ 1000000) (hmd : d < m) (hM : (M : Int) = d) :
    Calls Try.prog 113 #[.agg #[.int .i64 n, .int .i64 d], .int .i64 m, .func (.func 115) #[] #[]] w (BestsP w (bestsT true n d M)) := by
  have hok := okF_bd ok
  have hg := Lib.hid hok.2.2.2.2
  have hM1 : 1 ≤ M ∧ M ≤ 1000000 ∧ (M : Int) ≤ d := by omega
  have HM := Lib.hid hM
  clear ok hM
  have hd1 := hok.1
  clear hok
  go_enter Try.func113, Try.ntmps113
  go_wp2_with fail
  have Br1 : Bl w (w.alloc (.cells #[.int .i64 (n), .int .i64 (d)] 55)) := (bl_alloc (bl_refl _) _)
  have xF_r1 : Bx (w.alloc (.cells #[.int .i64 (n), .int .i64 (d)] 55)) (w.heap.size) #[.int .i64 (n), .int .i64 (d)] := (Bx.new (b := w.heap.size) _ #[.int .i64 (n), .int .i64 (d)] 55 (by first | rfl | simp))
  have zzr1 : w.heap.size + 1 ≤ (w.alloc (.cells #[.int .i64 (n), .int .i64 (d)] 55)).heap.size := (by simp)
  generalize (w.alloc (.cells #[.int .i64 (n), .int .i64 (d)] 55)) = wr1 at *
  obtain ⟨cF_r1, fF_r1, zF_r1⟩ := xF_r1.out
  clear cF_r1 fF_r1 zF_r1
  obtain ⟨c0, f0, z0⟩ := xF_r1.out
  go_wp2_with fail
  clear c0 f0 z0
  go_loopw [8, 9, 10, 11] (fun s8 s9 s10 s11 wr => ∃ (q : Nat) (best over : Int) (L : List (Int × Int)) (a : Option Addr) (c : Nat), s11 = .int .i64 q ∧ s9 = .int .i64 best ∧ s10 = .int .i64 over ∧ s8 = .slice a L.length c ∧ 1 ≤ q ∧ q ≤ M + 1 ∧ Hid (BMid true n d q best over L) ∧ L.length ≤ 200 ∧ OwnF wr wr1.heap.size (.slice a L.length c) L ∧ Bx wr w.heap.size #[.int .i64 n, .int .i64 d] ∧ Bl wr1 wr) (fun _ _ _ s11 _ => M + 1 - (intOf s11).toNat)
  case atStart => exact ⟨1, d, 1, [], none, 0, rfl, rfl, rfl, rfl, by omega, by omega, Lib.hid ⟨rfl, fun h => by omega, by simp⟩, by simp, OwnF.nil _ _, xF_r1, bl_refl _⟩
  case round =>
    obtain ⟨q, best, over, L, a, c, rfl, rfl, rfl, rfl, hq1, hq2, HB, hll, ho, xF, Br⟩ := hrel
    have B0 : Bl w wr := bl_call Br1 Br
    have HO := Lib.hid ho
    clear ho
    obtain ⟨c1, f1, z1⟩ := xF.out
    rcases Nat.lt_or_ge M q with hqM | hqM
    ·
      have HR := Lib.hid (bestsT_ok (M := M) (by rw [show M = q - 1 by omega]; exact HB.out.list) hll)
      have hle : ¬ (q : Int) ≤ d := by have := HM.out; omega
      go_wp2
      go_ret2
      exact bests_mk HR.out (HO.out.mono (by omega)) B0
    ·
      have hle : (q : Int) ≤ d := by have := HM.out; omega
      obtain ⟨p, dq, o, hN⟩ : ∃ p dq o, nearF n d (q : Int) = (p, dq, o) := ⟨_, _, _, rfl⟩
      have HN := Lib.hid hN
      have nb := near_bdK (n := n) (show 0 < d by omega) (q : Int)
      rw [hN] at nb
      simp only [] at nb
      clear hN
      rcases Nat.lt_or_ge 1 q with hq | hq
      ·
        have bb := HB.out.bd (by omega) hd (by omega) (by omega)
        have hqi : (1 : Int) < (q : Int) := by omega
        have hqd : (q : Int) ≤ d := by omega
        cases hl : lessK true dq q best over with
        | false =>
          have HL := Lib.hid hl
          have HB2 := Lib.hid (HB.out.no (by omega) hg.out (by omega) hqd HN.out hl)
          clear hl
          go_wp2_with fail
          refine (inear_eq HN.out _ hn ⟨by omega, hd⟩ (by omega)).mono ?_
          rintro e w9 ⟨rfl, hb9⟩
          have xF := xF.below hb9
          have HO := Lib.hid (HO.out.below hb9)
          have Br := bl_call Br hb9
          have B0 : Bl w w9 := bl_call Br1 Br
          clear c1 f1 z1
          obtain ⟨c1, f1, z1⟩ := xF.out
          go_wp2_with fail
          refine (clo_second dq q best over _).mono ?_
          rintro e w9 ⟨rfl, rfl⟩
          rw [HL.out]
          go_wp2
          go_roundw
          case rel => exact ⟨q + 1, best, over, L, a, c, by go_num, rfl, rfl, rfl, by omega, by omega, HB2, hll, HO.out, xF, Br⟩
          case measure => simp only [intOf]; omega
        | true =>
          have HL := Lib.hid hl
          have HY := Lib.hid (HB.out.yes (by omega) hg.out (by omega) hqd HN.out hl)
          clear hl
          cases o with
          | false =>
            have HB2 := Lib.hid (BMid.next HY.out.1 HY.out.2 hll)
            have hle2 : ¬ (200 : Int) < (L.length : Int) := by omega
            go_wp2_with fail
            refine (inear_eq HN.out _ hn ⟨by omega, hd⟩ (by omega)).mono ?_
            rintro e w9 ⟨rfl, hb9⟩
            have xF := xF.below hb9
            have HO := Lib.hid (HO.out.below hb9)
            have Br := bl_call Br hb9
            have B0 : Bl w w9 := bl_call Br1 Br
            clear c1 f1 z1
            obtain ⟨c1, f1, z1⟩ := xF.out
            go_wp2_with fail
            refine (clo_second dq q best over _).mono ?_
            rintro e w9 ⟨rfl, rfl⟩
            rw [HL.out]
            go_wp2
            go_roundw
            case rel => exact ⟨q + 1, dq, q, L, a, c, by go_num, rfl, rfl, rfl, by omega, by omega, HB2, hll, HO.out, xF, Br⟩
            case measure => simp only [intOf]; omega
          | true =>
            have hlen : (L ++ [(p, (q : Int))]).length = L.length + 1 := by simp
            have HLEN := Lib.hid hlen
            by_cases hfull : L.length = 200
            ·
              have HR := Lib.hid (bestsT_full (M := M) HY.out.2.symm (by simp; omega) hqM)
              have hle2 : (200 : Int) < (L.length : Int) + 1 := by omega
              have hle3 : 200 < L.length + 1 := by omega
              have hle4 : 199 < L.length := by omega
              clear hlen hfull
              go_wp2_with fail
              refine (inear_eq HN.out _ hn ⟨by omega, hd⟩ (by omega)).mono ?_
              rintro e w9 ⟨rfl, hb9⟩
              have xF := xF.below hb9
              have HO := Lib.hid (HO.out.below hb9)
              have Br := bl_call Br hb9
              have B0 : Bl w w9 := bl_call Br1 Br
              clear c1 f1 z1
              obtain ⟨c1, f1, z1⟩ := xF.out
              go_wp2_with fail
              refine (clo_second dq q best over _).mono ?_
              rintro e w9 ⟨rfl, rfl⟩
              rw [HL.out]
              go_wp2_with (at_builtin; refine wpList_append_frac rfl _ _ rfl wr1.heap.size _ L (by rfl) HO.out p q (by rfl) (by omega) Br.size ?_; intro v' wn ho hg2 _; obtain ⟨a1, c1', rfl, _⟩ := ho.form; have xN := xF.grownApartF hg2 (fun e => by have h1 := (HO.out.lt _ e).1; omega); clear c1 f1 z1; obtain ⟨cN, fN, zN⟩ := xN.out)
              (try rw [HLEN.out] at ho)
              (try rw [HLEN.out])
              go_wp2
              go_ret2
              exact bests_mk HR.out (OwnF.nil _ _) (bl_grown B0 hg2 (fun k hk => by have := (HO.out.lt k hk).1; omega))
            ·
              have HB2 := Lib.hid (BMid.next HY.out.1 HY.out.2 (by simp; omega))
              have hle2 : ¬ (200 : Int) < (L.length : Int) + 1 := by omega
              have hle3 : ¬ 200 < L.length + 1 := by omega
              have hl200 : L.length + 1 ≤ 200 := by omega
              clear hlen hfull
              go_wp2_with fail
              refine (inear_eq HN.out _ hn ⟨by omega, hd⟩ (by omega)).mono ?_
              rintro e w9 ⟨rfl, hb9⟩
              have xF := xF.below hb9
              have HO := Lib.hid (HO.out.below hb9)
              have Br := bl_call Br hb9
              have B0 : Bl w w9 := bl_call Br1 Br
              clear c1 f1 z1
              obtain ⟨c1, f1, z1⟩ := xF.out
              go_wp2_with fail
              refine (clo_second dq q best over _).mono ?_
              rintro e w9 ⟨rfl, rfl⟩
              rw [HL.out]
              go_wp2_with (at_builtin; refine wpList_append_frac rfl _ _ rfl wr1.heap.size _ L (by rfl) HO.out p q (by rfl) (by omega) Br.size ?_; intro v' wn ho hg2 _; obtain ⟨a1, c1', rfl, _⟩ := ho.form; have xN := xF.grownApartF hg2 (fun e => by have h1 := (HO.out.lt _ e).1; omega); clear c1 f1 z1; obtain ⟨cN, fN, zN⟩ := xN.out)
              rw [HLEN.out] at ho
              (try rw [HLEN.out])
              have HO3 := Lib.hid ho
              clear ho
              go_wp2
              go_roundw
              case rel => exact ⟨q + 1, dq, q, L ++ [(p, (q : Int))], a1, c1', by go_num, rfl, rfl, by rw [HLEN.out], by omega, by omega, HB2, by rw [HLEN.out]; exact hl200, by rw [HLEN.out]; exact HO3.out, xN, bl_grown Br hg2 (fun k hk => (HO.out.lt k hk).1)⟩
              case measure => simp only [intOf]; omega
      ·
        obtain rfl : q = 1 := by omega
        have HF := Lib.hid (HB.out.first (by omega) hg.out HN.out)
        obtain rfl : L = [] := HF.out.1
        have hqi : ¬ (1 : Int) < ((1 : Nat) : Int) := by omega
        cases o with
        | false =>
          have HB2 := Lib.hid (show BMid true n d 2 dq ((1 : Nat) : Int) [] from HF.out.2)
          go_wp2_with fail
          refine (inear_eq HN.out _ hn ⟨by omega, hd⟩ (by omega)).mono ?_
          rintro e w9 ⟨rfl, hb9⟩
          have xF := xF.below hb9
          have HO := Lib.hid (HO.out.below hb9)
          have Br := bl_call Br hb9
          have B0 : Bl w w9 := bl_call Br1 Br
          clear c1 f1 z1
          obtain ⟨c1, f1, z1⟩ := xF.out
          go_wp2
          go_roundw
          case rel => exact ⟨2, dq, 1, [], a, c, by go_num, rfl, rfl, rfl, by omega, by omega, HB2, hll, HO.out, xF, Br⟩
          case measure => simp only [intOf]; omega
        | true =>
          have HB2 := Lib.hid (show BMid true n d 2 dq ((1 : Nat) : Int) [(p, ((1 : Nat) : Int))] from HF.out.2)
          go_wp2_with fail
          refine (inear_eq HN.out _ hn ⟨by omega, hd⟩ (by omega)).mono ?_
          rintro e w9 ⟨rfl, hb9⟩
          have xF := xF.below hb9
          have HO := Lib.hid (HO.out.below hb9)
          have Br := bl_call Br hb9
          have B0 : Bl w w9 := bl_call Br1 Br
          clear c1 f1 z1
          obtain ⟨c1, f1, z1⟩ := xF.out
          go_wp2_with (at_builtin; refine wpList_append_frac rfl _ _ rfl wr1.heap.size _ [] (by rfl) HO.out p ((1 : Nat) : Int) (by rfl) (by omega) Br.size ?_; intro v' wn ho hg2 _; obtain ⟨a1, c1', rfl, _⟩ := ho.form; have xN := xF.grownApartF hg2 (fun e => by have h1 := (HO.out.lt _ e).1; omega); clear c1 f1 z1; obtain ⟨cN, fN, zN⟩ := xN.out)
          have HO3 := Lib.hid ho
          clear ho
          go_wp2
          go_roundw
          case rel => exact ⟨2, dq, 1, [(p, ((1 : Nat) : Int))], a1, c1', by go_num, rfl, rfl, rfl, by omega, by omega, HB2, by simp, HO3.out, xN, bl_grown Br hg2 (fun k hk => (HO.out.lt k hk).1)⟩
          case measure => simp only [intOf]; omega

end Go.Proofs.Ytgmofofokhlhnaa
