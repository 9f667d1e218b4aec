/- BestAbove: the program and the reference give the same. Each theorem names its conditions. -/
import Derived.Test.YtbonlompmnhmiaaUpM
import Derived.Test.YtbonlompmnhmiaaAsk
import Derived.Test.YtbonlompmnhmiaaLawFS
import Derived.Test.YtbonlompmnhmiaaApp
import Derived.Test.YtbonlompmnhmiaaSide18
namespace Go.Proofs.Ytbonlompmnhmiaa
open Go.RowKit
set_option linter.unusedVariables false
set_option linter.unusedSimpArgs false

theorem OwnF.addrR {w : World} {B : Nat} {v : Value} {fs : List (Int × Int)} (h : OwnF w B v fs) (hne : 0 < fs.length) : ∃ g c, v = .slice (some ⟨g, 0, none⟩) fs.length c ∧ B ≤ g ∧ g < w.heap.size ∧ fs.length ≤ c := by
  rcases h.2 with ⟨_, h2⟩ | ⟨g, cap, cur, rfl, hg, hh, hn, hm, hs, ht⟩
  · omega
  · exact ⟨g, cap, rfl, hg, (Array.getElem?_eq_some_iff.1 hh).1, hn⟩
theorem OwnF.drewN {w : World} {B : Nat} {v : Value} {fs : List (Int × Int)} (h : OwnF w B v fs) (n : Nat) : OwnF (w.drewN n) B v fs := h
theorem Bx.drewN {w : World} {b : Nat} {cs : Array Value} (h : Bx w b cs) (n : Nat) : Bx (w.drewN n) b cs := h
theorem bl_drewN {w w' : World} (h : Bl w w') (n : Nat) : Bl w (w'.drewN n) := h.trans (Drawn.below ⟨n, rfl⟩ _)
theorem OwnF.atR {w : World} {B g n c i : Nat} {fs : List (Int × Int)} {x y : Int} (h : OwnF w B (.slice (some ⟨g, 0, none⟩) n c) fs) (hx : fs[i]? = some (x, y)) : w.cell? ⟨g, i * 2, none⟩ = some (.int .i64 x) ∧ w.cell? ⟨g, i * 2 + 1, none⟩ = some (.int .i64 y) := by
  have := h.slF.atR (bl_refl w) hx
  rwa [Nat.zero_add] at this
theorem ret_li {x : Int} {r : List (Int × Int) × Int} {a : Option Addr} {k c : Nat} (h : x = r.2) : Ending.returned (.tuple #[.slice a k c, .int .i64 x]) = .returned (.tuple #[.slice a k c, .int .i64 r.2]) := by rw [h]
/-- The fractions that are nearer from above than all with lesser denominators, and a code. -/
def upF (n d m : Int) : List (Int × Int) × Int := if askC n d m 10000 = 0 then (upL n d (min m d).toNat, 0) else ([], askC n d m 10000)
theorem upF_no {n d m : Int} (h : ¬ askC n d m 10000 = 0) : upF n d m = ([], askC n d m 10000) := by rw [upF, if_neg h]
theorem upF_yes {n d m : Int} (h : askC n d m 10000 = 0) : upF n d m = (upL n d (min m d).toNat, 0) := by rw [upF, if_pos h]
theorem upF_len (n d m : Int) : (upF n d m).1.length ≤ 1048576 := by
  by_cases h : askC n d m 10000 = 0
  · rw [upF_yes h]
    have h1 := (upL_last n d (min m d).toNat).1
    have h2 := askC_zero h
    show (upL n d (min m d).toNat).length ≤ _
    omega
  · rw [upF_no h]; simp
theorem up_next {n d : Int} {q : Nat} {fs gs : List (Int × Int)} (hq : 1 ≤ q) (h : fs = upL n d (q - 1)) (hs : upStep n d q fs = gs) : gs = upL n d q := by
  obtain ⟨k, rfl⟩ : ∃ k, q = k + 1 := ⟨q - 1, by omega⟩
  rw [upL, ← hs, h]
  rfl
theorem up_at {n d : Int} {q : Nat} {fs : List (Int × Int)} (hq : 2 ≤ q) (h : fs = upL n d (q - 1)) : 1 ≤ fs.length ∧ ∃ a t, fs[fs.length - 1]? = some (a, t) ∧ UpI n d (q - 1) a t := by
  subst h
  exact (upL_last n d (q - 1)).2 (by omega)
theorem mul_bd17 {x t : Int} (hx : -10000000000000 ≤ x ∧ x ≤ 10000000000000) (ht : 0 ≤ t ∧ t ≤ 10000) : -100000000000000000 ≤ x * t ∧ x * t ≤ 100000000000000000 := by
  have a1 := Int.mul_le_mul_of_nonneg_right hx.1 ht.1
  have a2 := Int.mul_le_mul_of_nonneg_right hx.2 ht.1
  omega
/-- The sign of a difference. -/
def sgnV (x y : Int) : Int := if x < y then -1 else if y < x then 1 else 0
theorem sign_v {n d m e c : Int} (hc : sgnV (n * e) (m * d) = c) (w : World) (h1 : -4000000000000000000 ≤ n * e) (h2 : n * e ≤ 4000000000000000000) (h3 : -4000000000000000000 ≤ m * d) (h4 : m * d ≤ 4000000000000000000) :
    Calls Try.prog 77 #[.agg #[.int .i64 n, .int .i64 d], .agg #[.int .i64 m, .int .i64 e]] w fun r w' => r = .returned (.int .i64 c) ∧ Bl w w' := by
  subst hc
  unfold sgnV
  by_cases k : n * e < m * d
  · rw [if_pos k]; exact sign_lt n d m e w h1 h2 h3 h4 k
  · rw [if_neg k]
    by_cases k2 : m * d < n * e
    · rw [if_pos k2]; exact sign_gt n d m e w h1 h2 h3 h4 k2
    · rw [if_neg k2]; exact sign_eq n d m e w h1 h2 h3 h4 (by omega)
theorem sgn_lt {x y : Int} (h : x < y) : sgnV x y = -1 := by unfold sgnV; rw [if_pos h]
theorem sgn_ne {x y : Int} (h : ¬ x < y) : ∃ c, sgnV x y = c ∧ (c == -1) = false := by
  unfold sgnV
  rw [if_neg h]
  split <;> exact ⟨_, rfl, by decide⟩
theorem askC_hi {n d m : Int} (h : askC n d m 1000000000 = 0) : askC n d m 10000 = if 10000 < m then 2 else 0 := by
  obtain ⟨h1, h2, h3⟩ := askC_zero h
  unfold askC
  rw [if_pos h1]
  by_cases c : 10000 < m
  · rw [if_pos c, inB_no (by omega)]; simp
  · rw [if_neg c, if_pos (inB_iff.2 ⟨h2, by omega⟩)]
theorem askC_same {n d m : Int} (h : ¬ askC n d m 1000000000 = 0) : askC n d m 10000 = askC n d m 1000000000 := by
  unfold askC at h ⊢
  cases h1 : okF n d with
  | false => rfl
  | true =>
    rw [h1] at h
    cases h2 : inB m 1 1000000000 with
    | true => rw [h2] at h; exact absurd rfl h
    | false =>
      have : inB m 1 10000 = false := by
        cases h3 : inB m 1 10000 with
        | false => rfl
        | true =>
          have := inB_iff.1 h3
          rw [inB_iff.2 (by omega)] at h2
          cases h2
      rw [this]
      try simp
theorem lowF_one {x q : Int} (h : gcdI x q = 1) : lowF x q = (x, q) := by unfold lowF; rw [h, Int.ediv_one, Int.ediv_one]
theorem low_ne {x q : Int} (hq : 1 ≤ q) (h : gcdI x q ≠ 1) : ∃ x' q', lowF x q = (x', q') ∧ q' ≠ q ∧ ∃ g, 1 < g ∧ x = g * x' ∧ q = g * q' := by
  have h0 := gcdI_pos x q (by omega)
  have hx := Int.mul_ediv_cancel' (gcdI_dvd_left x q)
  have hy := Int.mul_ediv_cancel' (gcdI_dvd_right x q)
  refine ⟨_, _, rfl, fun e => ?_, gcdI x q, by omega, hx.symm, hy.symm⟩
  rw [e] at hy
  have : q * 2 ≤ q * gcdI x q := Int.mul_le_mul_of_nonneg_left (by omega) (by omega)
  rw [Int.mul_comm q (gcdI x q)] at this
  omega
theorem up_skip {n d y q' x' g : Int} {q : Nat} {fs : List (Int × Int)} (hd : 0 < d) (hq : 1 ≤ q) (h : fs = upL n d (q - 1)) (hcy : ceilD n d q = -y) (hg : 1 < g) (hx : -y = g * x') (hq' : (q : Int) = g * q') : fs = upL n d q := by
  obtain ⟨k, rfl⟩ : ∃ k, q = k + 1 := ⟨q - 1, by omega⟩
  have hk : 1 ≤ k := by
    rcases Nat.eq_zero_or_pos k with rfl | c
    · have h1 : g ∣ (1 : Int) := ⟨q', by simpa using hq'⟩
      have := Int.le_of_dvd (by omega) h1
      omega
    · exact c
  obtain ⟨h1, a, t, h2, h3⟩ := up_at (n := n) (d := d) (q := k + 1) (fs := fs) (by omega) h
  have := up_low hd h3 hg (by rw [show k + 1 - 1 + 1 = k + 1 by omega, hcy]; exact hx) (by rw [show k + 1 - 1 + 1 = k + 1 by omega]; exact hq')
  rw [show k + 1 - 1 + 1 = k + 1 by omega] at this
  exact up_next hq h (upStep_no h2 this)
theorem mk_min {m d : Int} (h : m ≤ d) : min m d = m := by omega
theorem mk_min' {m d : Int} (h : ¬ m ≤ d) : min m d = d := by omega

set_option maxRecDepth 100000 in
set_option maxHeartbeats 3200000 in
theorem impl_BestAbove (n d m : Int) (w : World) :
    Calls Try.prog 20 #[.agg #[.int .i64 n, .int .i64 d], .int .i64 m] w fun e w' => ∃ a k c, e = .returned (.tuple #[.slice a k c, .int .i64 (upF n d m).2]) ∧ OwnF w' w.heap.size (.slice a k c) (upF n d m).1 ∧ Bl w w' := by
  by_cases hc : askC n d m 10000 = 0
  ·
    have HR := Lib.hid (upF_yes hc)
    obtain ⟨hF, hm1, hm2⟩ := askC_zero hc
    obtain ⟨⟨hd1, hd2⟩, hn, _⟩ := okF_iff.1 hF
    obtain ⟨M, hM⟩ : ∃ M, M = (min m d).toNat := ⟨_, rfl⟩
    rw [← hM] at HR
    have hMm : (M : Int) ≤ m ∧ (M : Int) ≤ d ∧ 1 ≤ M ∧ M ≤ 10000 := by omega
    have HM := Lib.hid (show (M : Int) = min m d by omega)
    have HC := Lib.hid hc
    clear hc hM hF
    go_enter Try.func20, Try.ntmps20
    go_wp2_with fail
    refine (between_any n d m 10000 _).mono ?_
    rintro e w1 ⟨rfl, hb1⟩
    have B1 : Bl w w1 := bl_call (bl_alloc (bl_refl _) _) hb1
    have xF_1 : Bx w1 (w.heap.size) #[.int .i64 n, .int .i64 d] := (Bx.new (b := w.heap.size) _ #[.int .i64 n, .int .i64 d] 26 (by first | rfl | simp)).below hb1
    obtain ⟨cF_1, fF_1, zF_1⟩ := xF_1.out
    rw [HC.out]
    have hz1 := xF_1.out.2.2
    go_wp2_with fail
    go_loopw [7, 8] (fun s7 s8 wr => ∃ (q : Nat) (fs : List (Int × Int)) (a : Option Addr) (c : Nat), s8 = .int .i64 q ∧ s7 = .slice a fs.length c ∧ 1 ≤ q ∧ q ≤ M + 1 ∧ fs.length < q ∧ Hid (fs = upL n d (q - 1)) ∧ OwnF wr w1.heap.size (.slice a fs.length c) fs ∧ Bx wr w.heap.size #[.int .i64 n, .int .i64 d] ∧ Bl w1 wr) (fun _ s8 _ => M + 1 - (intOf s8).toNat)
    case atStart => exact ⟨1, [], none, 0, rfl, rfl, by omega, by omega, by simp, Lib.hid rfl, OwnF.nil _ _, xF_1, bl_refl _⟩
    case round =>
      obtain ⟨q, fs, a, c, rfl, rfl, hq1, hq2, hfl, HL, ho, xF, Bq⟩ := hrel
      have Br : Bl w wr := bl_call B1 Bq
      have HO := Lib.hid ho
      clear ho cF_1 fF_1 zF_1
      obtain ⟨cF, fF, zF⟩ := xF.out
      rcases Nat.lt_or_ge M q with hqM | hqM
      · obtain rfl : q = M + 1 := by omega
        have HL2 := Lib.hid (show fs = upL n d M from HL.out)
        by_cases hmd : m ≤ d
        all_goals
          have hle : ¬ (((M + 1 : Nat) : Int) ≤ min m d) := by have := HM.out; omega
          go_wp2
          go_ret2
          rw [HR.out]
          exact ⟨a, fs.length, c, rfl, by have e := HL2.out; rw [← e]; exact HO.out.mono B1.size, Br⟩
      · have hcb := ceilD_bd (n := n) (d := d) (q := q) hd1 hn (by omega)
        have hng : -n * (q : Int) = -(n * q) := Int.neg_mul n q
        obtain ⟨y, hy⟩ : ∃ y, y = -n * (q : Int) / d := ⟨_, rfl⟩
        have HY := Lib.hid hy.symm
        have hcy : ceilD n d q = -y := by rw [hy]; rfl
        have hyb : -10000000000000 ≤ y ∧ y ≤ 10000000000000 := by omega
        have hzb : -10000000000000 ≤ -n * (q : Int) ∧ -n * (q : Int) ≤ 10000000000000 := by omega
        have HCY := Lib.hid hcy
        clear hcy hy hng hcb
        by_cases hmd : m ≤ d
        ·
          have hqd : (q : Int) ≤ m := by omega
          go_wp2_with fail
          refine (fdiv_any _ _ _ (by omega) (by omega) (by omega) (by omega)).mono ?_
          rintro e w9 ⟨rfl, rfl⟩
          rw [HY.out]
          go_wp2_with fail
          have xX : Bx (wr.alloc (.cells #[.int .i64 (-y), .int .i64 (q : Int)] 26)) wr.heap.size #[.int .i64 (-y), .int .i64 (q : Int)] := Bx.new (b := wr.heap.size) _ _ _ rfl
          have hO2 := Lib.hid (HO.out.alloc (.cells #[.int .i64 (-y), .int .i64 (q : Int)] 26))
          have xF2 := xF.alloc (.cells #[.int .i64 (-y), .int .i64 (q : Int)] 26)
          have B2 := bl_alloc Bq (.cells #[.int .i64 (-y), .int .i64 (q : Int)] 26)
          have hsz : wr.heap.size + 1 ≤ (wr.alloc (.cells #[.int .i64 (-y), .int .i64 (q : Int)] 26)).heap.size := by simp
          clear HO cF fF zF
          generalize wr.alloc (.cells #[.int .i64 (-y), .int .i64 (q : Int)] 26) = w2 at *
          obtain ⟨cF, fF, zF⟩ := xF2.out
          obtain ⟨cX, fX, zX⟩ := xX.out
          rcases Nat.lt_or_ge 1 q with hq | hq
          ·
            obtain ⟨hl1, a0, t0, hx, hU⟩ := up_at (by omega) HL.out
            have HU := Lib.hid hU
            obtain ⟨ht1, ht2, hta, _⟩ := hU
            have hab : -10000000000000 ≤ a0 ∧ a0 ≤ 10000000000000 := by rw [hta]; exact (ceilD_bd hd1 hn (by omega)).2
            obtain ⟨g, c2, he, hg1, hg2, _⟩ := hO2.out.addrR hl1
            injection he with he _ hcc2
            subst he
            subst hcc2
            obtain ⟨e1, e2⟩ := hO2.out.atR hx
            have HX := Lib.hid hx
            have b1 := mul_bd17 (x := -y) (t := t0) (by omega) (by omega)
            have b2 := mul_bd17 (x := a0) (t := (q : Int)) hab (by omega)
            have cl : ((fs.length : Int) == 0) = false := by rw [beq_eq_false_iff_ne]; omega
            have ci : 0 ≤ (fs.length : Int) - 1 := by omega
            clear hta hx
            by_cases hlt : -y * t0 < a0 * (q : Int)
            ·
              have HN := Lib.hid (up_next hq1 HL.out (upStep_yes HX.out (by rw [HCY.out]; exact hlt)))
              rw [HCY.out] at HN
              have cb : decide (-y * t0 < a0 * (q : Int)) = true := decide_eq_true hlt
              go_quiet (fail)
              go_wp2_with (at_builtin; refine wpList_append_frac rfl _ _ rfl w1.heap.size _ fs (by rfl) (hO2.out.drewN _) (-y) q (by rfl) (by omega) (by have := B2.size; simpa using this) ?_; intro v' wn ho hg _; obtain ⟨a1, c1, rfl, _⟩ := ho.form; have xN := (xF2.drewN _).grownApartF hg (fun e => by have := (hO2.out.lt _ e).1; omega); clear cF fF zF cX fX zX; obtain ⟨cN, fN, zN⟩ := xN.out)
              have BN := bl_grown (bl_drewN B2 _) hg (fun k hk => (hO2.out.lt k hk).1)
              clear hg
              have HO3 := Lib.hid ho
              clear ho
              go_wp2
              go_roundw
              case rel => exact ⟨q + 1, fs ++ [(-y, (q : Int))], a1, c1, by go_num, by simp, by omega, by omega, by simp; omega, HN, HO3.out, xN, BN⟩
              case measure => simp only [intOf]; omega
            ·
              have HN := Lib.hid (up_next hq1 HL.out (upStep_no HX.out (by rw [HCY.out]; exact hlt)))
              have cb : decide (-y * t0 < a0 * (q : Int)) = false := decide_eq_false hlt
              go_quiet (fail)
              go_wp2
              go_roundw
              case rel => exact ⟨q + 1, fs, _, c, by go_num, rfl, by omega, by omega, by omega, HN, hO2.out.drewN _, xF2.drewN _, bl_drewN B2 _⟩
              case measure => simp only [intOf]; omega
          ·
            have hl0 : fs.length = 0 := by omega
            have HN := Lib.hid (up_next hq1 HL.out (upStep_none (List.eq_nil_of_length_eq_zero hl0)))
            rw [HCY.out] at HN
            have cl : ((fs.length : Int) == 0) = true := by simp [hl0]
            clear hl0
            go_quiet (fail)
            go_wp2_with (at_builtin; refine wpList_append_frac rfl _ _ rfl w1.heap.size _ fs (by rfl) (hO2.out.drewN _) (-y) q (by rfl) (by omega) (by have := B2.size; simpa using this) ?_; intro v' wn ho hg _; obtain ⟨a1, c1, rfl, _⟩ := ho.form; have xN := (xF2.drewN _).grownApartF hg (fun e => by have := (hO2.out.lt _ e).1; omega); clear cF fF zF cX fX zX; obtain ⟨cN, fN, zN⟩ := xN.out)
            have BN := bl_grown (bl_drewN B2 _) hg (fun k hk => (hO2.out.lt k hk).1)
            clear hg
            have HO3 := Lib.hid ho
            clear ho
            go_wp2
            go_roundw
            case rel => exact ⟨q + 1, fs ++ [(-y, (q : Int))], a1, c1, by go_num, by simp, by omega, by omega, by simp; omega, HN, HO3.out, xN, BN⟩
            case measure => simp only [intOf]; omega
        ·
          have hqd : (q : Int) ≤ d := by omega
          go_wp2_with fail
          refine (fdiv_any _ _ _ (by omega) (by omega) (by omega) (by omega)).mono ?_
          rintro e w9 ⟨rfl, rfl⟩
          rw [HY.out]
          go_wp2_with fail
          have xX : Bx (wr.alloc (.cells #[.int .i64 (-y), .int .i64 (q : Int)] 26)) wr.heap.size #[.int .i64 (-y), .int .i64 (q : Int)] := Bx.new (b := wr.heap.size) _ _ _ rfl
          have hO2 := Lib.hid (HO.out.alloc (.cells #[.int .i64 (-y), .int .i64 (q : Int)] 26))
          have xF2 := xF.alloc (.cells #[.int .i64 (-y), .int .i64 (q : Int)] 26)
          have B2 := bl_alloc Bq (.cells #[.int .i64 (-y), .int .i64 (q : Int)] 26)
          have hsz : wr.heap.size + 1 ≤ (wr.alloc (.cells #[.int .i64 (-y), .int .i64 (q : Int)] 26)).heap.size := by simp
          clear HO cF fF zF
          generalize wr.alloc (.cells #[.int .i64 (-y), .int .i64 (q : Int)] 26) = w2 at *
          obtain ⟨cF, fF, zF⟩ := xF2.out
          obtain ⟨cX, fX, zX⟩ := xX.out
          rcases Nat.lt_or_ge 1 q with hq | hq
          ·
            obtain ⟨hl1, a0, t0, hx, hU⟩ := up_at (by omega) HL.out
            have HU := Lib.hid hU
            obtain ⟨ht1, ht2, hta, _⟩ := hU
            have hab : -10000000000000 ≤ a0 ∧ a0 ≤ 10000000000000 := by rw [hta]; exact (ceilD_bd hd1 hn (by omega)).2
            obtain ⟨g, c2, he, hg1, hg2, _⟩ := hO2.out.addrR hl1
            injection he with he _ hcc2
            subst he
            subst hcc2
            obtain ⟨e1, e2⟩ := hO2.out.atR hx
            have HX := Lib.hid hx
            have b1 := mul_bd17 (x := -y) (t := t0) (by omega) (by omega)
            have b2 := mul_bd17 (x := a0) (t := (q : Int)) hab (by omega)
            have cl : ((fs.length : Int) == 0) = false := by rw [beq_eq_false_iff_ne]; omega
            have ci : 0 ≤ (fs.length : Int) - 1 := by omega
            clear hta hx
            by_cases hlt : -y * t0 < a0 * (q : Int)
            ·
              have HN := Lib.hid (up_next hq1 HL.out (upStep_yes HX.out (by rw [HCY.out]; exact hlt)))
              rw [HCY.out] at HN
              have cb : decide (-y * t0 < a0 * (q : Int)) = true := decide_eq_true hlt
              go_quiet (fail)
              go_wp2_with (at_builtin; refine wpList_append_frac rfl _ _ rfl w1.heap.size _ fs (by rfl) (hO2.out.drewN _) (-y) q (by rfl) (by omega) (by have := B2.size; simpa using this) ?_; intro v' wn ho hg _; obtain ⟨a1, c1, rfl, _⟩ := ho.form; have xN := (xF2.drewN _).grownApartF hg (fun e => by have := (hO2.out.lt _ e).1; omega); clear cF fF zF cX fX zX; obtain ⟨cN, fN, zN⟩ := xN.out)
              have BN := bl_grown (bl_drewN B2 _) hg (fun k hk => (hO2.out.lt k hk).1)
              clear hg
              have HO3 := Lib.hid ho
              clear ho
              go_wp2
              go_roundw
              case rel => exact ⟨q + 1, fs ++ [(-y, (q : Int))], a1, c1, by go_num, by simp, by omega, by omega, by simp; omega, HN, HO3.out, xN, BN⟩
              case measure => simp only [intOf]; omega
            ·
              have HN := Lib.hid (up_next hq1 HL.out (upStep_no HX.out (by rw [HCY.out]; exact hlt)))
              have cb : decide (-y * t0 < a0 * (q : Int)) = false := decide_eq_false hlt
              go_quiet (fail)
              go_wp2
              go_roundw
              case rel => exact ⟨q + 1, fs, _, c, by go_num, rfl, by omega, by omega, by omega, HN, hO2.out.drewN _, xF2.drewN _, bl_drewN B2 _⟩
              case measure => simp only [intOf]; omega
          ·
            have hl0 : fs.length = 0 := by omega
            have HN := Lib.hid (up_next hq1 HL.out (upStep_none (List.eq_nil_of_length_eq_zero hl0)))
            rw [HCY.out] at HN
            have cl : ((fs.length : Int) == 0) = true := by simp [hl0]
            clear hl0
            go_quiet (fail)
            go_wp2_with (at_builtin; refine wpList_append_frac rfl _ _ rfl w1.heap.size _ fs (by rfl) (hO2.out.drewN _) (-y) q (by rfl) (by omega) (by have := B2.size; simpa using this) ?_; intro v' wn ho hg _; obtain ⟨a1, c1, rfl, _⟩ := ho.form; have xN := (xF2.drewN _).grownApartF hg (fun e => by have := (hO2.out.lt _ e).1; omega); clear cF fF zF cX fX zX; obtain ⟨cN, fN, zN⟩ := xN.out)
            have BN := bl_grown (bl_drewN B2 _) hg (fun k hk => (hO2.out.lt k hk).1)
            clear hg
            have HO3 := Lib.hid ho
            clear ho
            go_wp2
            go_roundw
            case rel => exact ⟨q + 1, fs ++ [(-y, (q : Int))], a1, c1, by go_num, by simp, by omega, by omega, by simp; omega, HN, HO3.out, xN, BN⟩
            case measure => simp only [intOf]; omega
  ·
    have HR := Lib.hid (upF_no hc)
    have hb : (askC n d m 10000 != 0) = true := by simp [hc]
    generalize hcc : askC n d m 10000 = cc at *
    have HC := Lib.hid hcc
    clear hcc hc
    go_enter Try.func20, Try.ntmps20
    go_wp2_with fail
    refine (between_any n d m 10000 _).mono ?_
    rintro e w1 ⟨rfl, hb1⟩
    have B1 : Bl w w1 := bl_call (bl_alloc (bl_refl _) _) hb1
    have xF_1 : Bx w1 (w.heap.size) #[.int .i64 n, .int .i64 d] := (Bx.new (b := w.heap.size) _ #[.int .i64 n, .int .i64 d] 26 (by first | rfl | simp)).below hb1
    obtain ⟨cF_1, fF_1, zF_1⟩ := xF_1.out
    rw [HC.out]
    go_wp2
    go_ret2
    rw [HR.out]
    exact ⟨none, 0, 0, rfl, OwnF.nil _ _, B1⟩

set_option maxHeartbeats 800000 in
theorem small19_any (n d m : Int) (w : World) :
    Calls Try.prog 59 #[.agg #[.int .i64 n, .int .i64 d], .int .i64 m] w fun e w' => e = .returned (.int .i64 (askC n d m 10000)) ∧ Bl w w' := by
  by_cases hc : askC n d m 1000000000 = 0
  · have HA := Lib.hid (askC_hi hc)
    have HC := Lib.hid hc
    clear hc
    by_cases hm : 10000 < m
    all_goals
      go_enter Try.func59, Try.ntmps59
      go_wp2_with fail
      refine (asked_any n d m _).mono ?_
      rintro e w1 ⟨rfl, hb1⟩
      have B1 : Bl w w1 := bl_call (bl_alloc (bl_refl _) _) hb1
      have xF_1 : Bx w1 (w.heap.size) #[.int .i64 n, .int .i64 d] := (Bx.new (b := w.heap.size) _ #[.int .i64 n, .int .i64 d] 26 (by first | rfl | simp)).below hb1
      obtain ⟨cF_1, fF_1, zF_1⟩ := xF_1.out
      rw [HC.out]
      have cz : ((0 : Int) == 0) = true := rfl
      go_wp2
      go_ret
      exact ⟨ret_int (by rw [HA.out]; first | rw [if_pos (by omega)] | rw [if_neg (by omega)]), B1⟩
  · have HA := Lib.hid (askC_same hc)
    have cz : (askC n d m 1000000000 == 0) = false := by simp [hc]
    generalize hcc : askC n d m 1000000000 = cc at *
    have HC := Lib.hid hcc
    clear hcc hc
    go_enter Try.func59, Try.ntmps59
    go_wp2_with fail
    refine (asked_any n d m _).mono ?_
    rintro e w1 ⟨rfl, hb1⟩
    have B1 : Bl w w1 := bl_call (bl_alloc (bl_refl _) _) hb1
    have xF_1 : Bx w1 (w.heap.size) #[.int .i64 n, .int .i64 d] := (Bx.new (b := w.heap.size) _ #[.int .i64 n, .int .i64 d] 26 (by first | rfl | simp)).below hb1
    obtain ⟨cF_1, fF_1, zF_1⟩ := xF_1.out
    rw [HC.out]
    go_wp2
    go_ret
    exact ⟨ret_int HA.out.symm, B1⟩

set_option maxRecDepth 100000 in
set_option maxHeartbeats 3200000 in
theorem upS_any (n d m : Int) (M : Nat) (w : World) (hd1 : 1 ≤ d) (hd2 : d ≤ 1000000000) (hn : -1000000000 ≤ n ∧ n ≤ 1000000000) (hm1 : 1 ≤ m) (hm2 : m ≤ 10000) (hM : (M : Int) = min m d) :
    Calls Try.prog 60 #[.agg #[.int .i64 n, .int .i64 d], .int .i64 m, .int .i64 (-1)] w fun e w' => ∃ a k c, e = .returned (.slice a k c) ∧ OwnF w' w.heap.size (.slice a k c) (upL n d M) ∧ Bl w w' := by
  have hMm : (M : Int) ≤ m ∧ (M : Int) ≤ d ∧ 1 ≤ M ∧ M ≤ 10000 := by omega
  have HM := Lib.hid hM
  clear hM
  go_enter Try.func60, Try.ntmps60
  go_wp2
  go_loopw [7, 8] (fun s7 s8 wr => ∃ (q : Nat) (fs : List (Int × Int)) (a : Option Addr) (c : Nat), s8 = .int .i64 q ∧ s7 = .slice a fs.length c ∧ 1 ≤ q ∧ q ≤ M + 1 ∧ fs.length < q ∧ Hid (fs = upL n d (q - 1)) ∧ OwnF wr (w.heap.size + 1) (.slice a fs.length c) fs ∧ Bx wr w.heap.size #[.int .i64 n, .int .i64 d] ∧ Bl (w.alloc (.cells #[.int .i64 n, .int .i64 d] 26)) wr) (fun _ s8 _ => M + 1 - (intOf s8).toNat)
  case atStart => exact ⟨1, [], _, 0, rfl, rfl, by omega, by omega, by simp, Lib.hid rfl, ownF_made _ (by simp) (by simp), (Bx.new _ _ _ rfl).alloc _, bl_alloc (bl_refl _) _⟩
  case round =>
    obtain ⟨q, fs, a, c, rfl, rfl, hq1, hq2, hfl, HL, ho, xF, Bq⟩ := hrel
    have hz1 : w.heap.size + 1 ≤ wr.heap.size := by have := Bq.size; simpa using this
    have Br : Bl w wr := bl_call (bl_alloc (bl_refl _) _) Bq
    have HO := Lib.hid ho
    clear ho
    obtain ⟨cF, fF, zF⟩ := xF.out
    have cneg : decide ((-1 : Int) < 0) = true := rfl
    rcases Nat.lt_or_ge M q with hqM | hqM
    · obtain rfl : q = M + 1 := by omega
      have HL2 := Lib.hid (show fs = upL n d M from HL.out)
      by_cases hmd : m ≤ d
      ·
        have hle : m < ((M + 1 : Nat) : Int) := by have := HM.out; omega
        go_wp2
        go_ret
        exact ⟨a, fs.length, c, rfl, by have e := HL2.out; rw [← e]; exact HO.out.mono (by omega), Br⟩
      ·
        have hle : d < ((M + 1 : Nat) : Int) := by have := HM.out; omega
        have hle2 : ((M + 1 : Nat) : Int) ≤ m := by have := HM.out; omega
        go_wp2
        go_ret
        exact ⟨a, fs.length, c, rfl, by have e := HL2.out; rw [← e]; exact HO.out.mono (by omega), Br⟩
    · have hcb := ceilD_bd (n := n) (d := d) (q := q) hd1 hn (by omega)
      have hng : -n * (q : Int) = -(n * q) := Int.neg_mul n q
      obtain ⟨y, hy⟩ : ∃ y, y = -n * (q : Int) / d := ⟨_, rfl⟩
      have HY := Lib.hid hy.symm
      have hcy : ceilD n d q = -y := by rw [hy]; rfl
      have hyb : -10000000000000 ≤ y ∧ y ≤ 10000000000000 := by omega
      have hzb : -10000000000000 ≤ -n * (q : Int) ∧ -n * (q : Int) ≤ 10000000000000 := by omega
      have hzc : -10000000000000 ≤ n * (q : Int) ∧ n * (q : Int) ≤ 10000000000000 := by omega
      have HCY := Lib.hid hcy
      have hqm : (q : Int) ≤ m ∧ (q : Int) ≤ d := by omega
      clear hcy hy hng hcb
      go_wp2_with fail
      refine (floor_any _ _ _ (by omega) (by omega) (by omega) (by omega)).mono ?_
      rintro e w9 ⟨rfl, rfl⟩
      go_wp2_with fail
      refine (floor_any _ _ _ (by omega) (by omega) (by omega) (by omega)).mono ?_
      rintro e w9 ⟨rfl, rfl⟩
      rw [HY.out]
      go_wp2_with fail
      refine (lowF_any _ _ _ (by omega) (by omega) (by omega) (by omega)).mono ?_
      rintro e w3 ⟨rfl, hb3⟩
      have B3 : Bl (w.alloc (.cells #[.int .i64 n, .int .i64 d] 26)) w3 := bl_call Bq hb3
      have hz3 : w.heap.size + 1 ≤ w3.heap.size := by have := B3.size; simpa using this
      have xF3 := xF.below hb3
      have hO3 := Lib.hid (HO.out.below hb3)
      clear HO cF fF zF
      obtain ⟨cF, fF, zF⟩ := xF3.out
      by_cases hg : gcdI (-y) q = 1
      ·
        rw [lowF_one hg]
        clear hg
        have ceq : ((q : Int) == (q : Int)) = true := by simp
        go_wp2_with fail
        have xX : Bx (w3.alloc (.cells #[.int .i64 (-y), .int .i64 (q : Int)] 26)) w3.heap.size #[.int .i64 (-y), .int .i64 (q : Int)] := Bx.new (b := w3.heap.size) _ _ _ rfl
        have hO2 := Lib.hid (hO3.out.alloc (.cells #[.int .i64 (-y), .int .i64 (q : Int)] 26))
        have xF2 := xF3.alloc (.cells #[.int .i64 (-y), .int .i64 (q : Int)] 26)
        have B2 := bl_alloc B3 (.cells #[.int .i64 (-y), .int .i64 (q : Int)] 26)
        have hsz : w3.heap.size + 1 ≤ (w3.alloc (.cells #[.int .i64 (-y), .int .i64 (q : Int)] 26)).heap.size := by simp
        clear hO3 cF fF zF
        generalize w3.alloc (.cells #[.int .i64 (-y), .int .i64 (q : Int)] 26) = w2 at *
        obtain ⟨cF, fF, zF⟩ := xF2.out
        obtain ⟨cX, fX, zX⟩ := xX.out
        rcases Nat.lt_or_ge 1 q with hq | hq
        ·
          obtain ⟨hl1, a0, t0, hx, hU⟩ := up_at (by omega) HL.out
          obtain ⟨ht1, ht2, hta, _⟩ := hU
          have hab : -10000000000000 ≤ a0 ∧ a0 ≤ 10000000000000 := by rw [hta]; exact (ceilD_bd hd1 hn (by omega)).2
          obtain ⟨g, c2, he, hg1, hg2, _⟩ := hO2.out.addrR hl1
          injection he with he _ hcc2
          subst he
          subst hcc2
          obtain ⟨e1, e2⟩ := hO2.out.atR hx
          have HX := Lib.hid hx
          have b1 := mul_bd17 (x := -y) (t := t0) (by omega) (by omega)
          have b2 := mul_bd17 (x := a0) (t := (q : Int)) hab (by omega)
          have cl : ((fs.length : Int) == 0) = false := by rw [beq_eq_false_iff_ne]; omega
          have ci : 0 ≤ (fs.length : Int) - 1 := by omega
          have ci2 : (fs.length : Int) - 1 < fs.length := by omega
          have ci3 : (1 : Int) ≤ fs.length := by omega
          have ci4 : 0 < fs.length := hl1
          clear hta hx
          by_cases hlt : -y * t0 < a0 * (q : Int)
          ·
            have HN := Lib.hid (up_next hq1 HL.out (upStep_yes HX.out (by rw [HCY.out]; exact hlt)))
            rw [HCY.out] at HN
            have HSG := Lib.hid (sgn_lt hlt)
            have cs : ((-1 : Int) == -1) = true := rfl
            have cw : IntKind.i64.wrap ((fs.length : Int) - 1) = (fs.length : Int) - 1 := IntWalk.i64_in _ (by omega)
            have ct : ((fs.length : Int) - 1).toNat = fs.length - 1 := by omega
            (skip; go_region_held3 (fun w' => w'.cell? ⟨w3.heap.size, 0, none⟩ = some (.int .i64 (-y)) ∧ w'.cell? ⟨w3.heap.size, 1, none⟩ = some (.int .i64 q) ∧ w'.cell? ⟨g, (fs.length - 1) * 2, none⟩ = some (.int .i64 a0) ∧ w'.cell? ⟨g, (fs.length - 1) * 2 + 1, none⟩ = some (.int .i64 t0)) (first | (simp [*]; done) | (go_simp; done) | go_keep)
              ((go_at_call 77; refine (sign_v HSG.out _ (by omega) (by omega) (by omega) (by omega)).mono ?_; rintro e w4 ⟨rfl, hb4⟩; have q1 : w4.cell? ⟨w3.heap.size, 0, none⟩ = some (.int .i64 (-y)) := (xX.drew.below hb4).out.1 0; have q2 : w4.cell? ⟨w3.heap.size, 1, none⟩ = some (.int .i64 q) := (xX.drew.below hb4).out.1 1; obtain ⟨q3, q4⟩ := (hO2.out.drew.below hb4).atR HX.out)))
            clear cw ct
            have hO5 := Lib.hid (hO2.out.drew.below hb4)
            have xF5 := xF2.drew.below hb4
            have B5 := bl_call (bl_drew B2) hb4
            have xX5 := xX.drew.below hb4
            clear cF fF zF cX fX zX
            obtain ⟨cF, fF, zF⟩ := xF5.out
            obtain ⟨cX, fX, zX⟩ := xX5.out
            go_wp2_with (at_builtin; refine wpList_append_frac rfl _ _ rfl (w.heap.size + 1) _ fs (by rfl) hO5.out (-y) q (by rfl) (by omega) (by have h1 := hb4.size; have h2 : w2.drew.heap.size = w2.heap.size := rfl; omega) ?_; intro v' wn ho hg _; obtain ⟨a1, c1, rfl, _⟩ := ho.form; have xN := (xF5).grownApartF hg (fun e => by have := (hO2.out.lt _ e).1; omega); clear cF fF zF cX fX zX; obtain ⟨cN, fN, zN⟩ := xN.out)
            have BN := bl_grown (B5) hg (fun k hk => by have := (hO2.out.lt k hk).1; simp; omega)
            clear hg
            have HO3 := Lib.hid ho
            clear ho
            go_wp2
            go_roundw
            case rel => exact ⟨q + 1, fs ++ [(-y, (q : Int))], a1, c1, by go_num, by simp, by omega, by omega, by simp; omega, HN, HO3.out, xN, BN⟩
            case measure => simp only [intOf]; omega
          ·
            have HN := Lib.hid (up_next hq1 HL.out (upStep_no HX.out (by rw [HCY.out]; exact hlt)))
            obtain ⟨cc, hcc, cs⟩ := sgn_ne hlt
            have HSG := Lib.hid hcc
            clear hcc
            have cw : IntKind.i64.wrap ((fs.length : Int) - 1) = (fs.length : Int) - 1 := IntWalk.i64_in _ (by omega)
            have ct : ((fs.length : Int) - 1).toNat = fs.length - 1 := by omega
            (skip; go_region_held3 (fun w' => w'.cell? ⟨w3.heap.size, 0, none⟩ = some (.int .i64 (-y)) ∧ w'.cell? ⟨w3.heap.size, 1, none⟩ = some (.int .i64 q) ∧ w'.cell? ⟨g, (fs.length - 1) * 2, none⟩ = some (.int .i64 a0) ∧ w'.cell? ⟨g, (fs.length - 1) * 2 + 1, none⟩ = some (.int .i64 t0)) (first | (simp [*]; done) | (go_simp; done) | go_keep)
              ((go_at_call 77; refine (sign_v HSG.out _ (by omega) (by omega) (by omega) (by omega)).mono ?_; rintro e w4 ⟨rfl, hb4⟩; have q1 : w4.cell? ⟨w3.heap.size, 0, none⟩ = some (.int .i64 (-y)) := (xX.drew.below hb4).out.1 0; have q2 : w4.cell? ⟨w3.heap.size, 1, none⟩ = some (.int .i64 q) := (xX.drew.below hb4).out.1 1; obtain ⟨q3, q4⟩ := (hO2.out.drew.below hb4).atR HX.out)))
            clear cw ct
            have hO5 := Lib.hid (hO2.out.drew.below hb4)
            have xF5 := xF2.drew.below hb4
            have B5 := bl_call (bl_drew B2) hb4
            have xX5 := xX.drew.below hb4
            clear cF fF zF cX fX zX
            obtain ⟨cF, fF, zF⟩ := xF5.out
            obtain ⟨cX, fX, zX⟩ := xX5.out
            go_wp2
            go_roundw
            case rel => exact ⟨q + 1, fs, _, c, by go_num, rfl, by omega, by omega, by omega, HN, hO5.out, xF5, B5⟩
            case measure => simp only [intOf]; omega
        ·
          have hl0 : fs.length = 0 := by omega
          have HN := Lib.hid (up_next hq1 HL.out (upStep_none (List.eq_nil_of_length_eq_zero hl0)))
          rw [HCY.out] at HN
          have cl : ((fs.length : Int) == 0) = true := by simp [hl0]
          clear hl0
          go_quiet (fail)
          go_wp2_with (at_builtin; refine wpList_append_frac rfl _ _ rfl (w.heap.size + 1) _ fs (by rfl) (hO2.out.drewN _) (-y) q (by rfl) (by omega) (show w.heap.size + 1 ≤ w2.heap.size by omega) ?_; intro v' wn ho hg _; obtain ⟨a1, c1, rfl, _⟩ := ho.form; have xN := (xF2.drewN _).grownApartF hg (fun e => by have := (hO2.out.lt _ e).1; omega); clear cF fF zF cX fX zX; obtain ⟨cN, fN, zN⟩ := xN.out)
          have BN := bl_grown (bl_drewN B2 _) hg (fun k hk => by have := (hO2.out.lt k hk).1; simp; omega)
          clear hg
          have HO3 := Lib.hid ho
          clear ho
          go_wp2
          go_roundw
          case rel => exact ⟨q + 1, fs ++ [(-y, (q : Int))], a1, c1, by go_num, by simp, by omega, by omega, by simp; omega, HN, HO3.out, xN, BN⟩
          case measure => simp only [intOf]; omega
      ·
        obtain ⟨x', q', hlow, hne, g, hg1, hgx, hgq⟩ := low_ne (x := -y) (q := (q : Int)) (by omega) hg
        have HN := Lib.hid (up_skip (by omega) hq1 HL.out HCY.out hg1 hgx hgq)
        rw [hlow]
        have ceq : (q' == (q : Int)) = false := by rw [beq_eq_false_iff_ne]; exact hne
        clear hne hlow hgx hgq hg
        go_wp2_with fail
        have xX : Bx (w3.alloc (.cells #[.int .i64 x', .int .i64 q'] 26)) w3.heap.size #[.int .i64 x', .int .i64 q'] := Bx.new (b := w3.heap.size) _ _ _ rfl
        have hO2 := Lib.hid (hO3.out.alloc (.cells #[.int .i64 x', .int .i64 q'] 26))
        have xF2 := xF3.alloc (.cells #[.int .i64 x', .int .i64 q'] 26)
        have B2 := bl_alloc B3 (.cells #[.int .i64 x', .int .i64 q'] 26)
        have hsz : w3.heap.size + 1 ≤ (w3.alloc (.cells #[.int .i64 x', .int .i64 q'] 26)).heap.size := by simp
        clear hO3 cF fF zF
        generalize w3.alloc (.cells #[.int .i64 x', .int .i64 q'] 26) = w2 at *
        obtain ⟨cF, fF, zF⟩ := xF2.out
        obtain ⟨cX, fX, zX⟩ := xX.out
        go_quiet (fail)
        go_wp2
        go_roundw
        case rel => exact ⟨q + 1, fs, _, c, by go_num, rfl, by omega, by omega, by omega, HN, (hO2.out.drewN _), xF2.drewN _, bl_drewN B2 _⟩
        case measure => simp only [intOf]; omega

set_option maxRecDepth 100000 in
set_option maxHeartbeats 1600000 in
theorem spec_BestAbove (n d m : Int) (w : World) :
    Calls Try.prog 19 #[.agg #[.int .i64 n, .int .i64 d], .int .i64 m] w fun e w' => ∃ a k c, e = .returned (.tuple #[.slice a k c, .int .i64 (upF n d m).2]) ∧ OwnF w' w.heap.size (.slice a k c) (upF n d m).1 ∧ Bl w w' := by
  by_cases hc : askC n d m 10000 = 0
  ·
    have HR := Lib.hid (upF_yes hc)
    obtain ⟨hF, hm1, hm2⟩ := askC_zero hc
    obtain ⟨⟨hd1, hd2⟩, hn, _⟩ := okF_iff.1 hF
    have hM : (((min m d).toNat : Nat) : Int) = min m d := by omega
    have HM := Lib.hid hM
    have HC := Lib.hid hc
    clear hc hM hF
    go_enter Try.func19, Try.ntmps19
    go_wp2_with fail
    refine (small19_any n d m _).mono ?_
    rintro e w1 ⟨rfl, hb1⟩
    have B1 : Bl w w1 := bl_call (bl_alloc (bl_refl _) _) hb1
    have xF_1 : Bx w1 (w.heap.size) #[.int .i64 n, .int .i64 d] := (Bx.new (b := w.heap.size) _ #[.int .i64 n, .int .i64 d] 26 (by first | rfl | simp)).below hb1
    obtain ⟨cF_1, fF_1, zF_1⟩ := xF_1.out
    rw [HC.out]
    go_wp2_with fail
    refine (upS_any n d m _ _ hd1 hd2 hn hm1 hm2 HM.out).mono ?_
    rintro e w2 ⟨a, k, c, rfl, HO, hb2⟩
    have B2 : Bl w w2 := bl_call B1 hb2
    have xF_2 : Bx w2 (w.heap.size) #[.int .i64 n, .int .i64 d] := xF_1.below hb2
    clear cF_1 fF_1 zF_1
    obtain ⟨cF_2, fF_2, zF_2⟩ := xF_2.out
    have HO := Lib.hid HO
    go_wp2
    go_ret2
    rw [HR.out]
    exact ⟨a, k, c, rfl, HO.out.mono B1.size, B2⟩
  ·
    have HR := Lib.hid (upF_no hc)
    have hb : (askC n d m 10000 != 0) = true := by simp [hc]
    generalize hcc : askC n d m 10000 = cc at *
    have HC := Lib.hid hcc
    clear hcc hc
    go_enter Try.func19, Try.ntmps19
    go_wp2_with fail
    refine (small19_any n d m _).mono ?_
    rintro e w1 ⟨rfl, hb1⟩
    have B1 : Bl w w1 := bl_call (bl_alloc (bl_refl _) _) hb1
    have xF_1 : Bx w1 (w.heap.size) #[.int .i64 n, .int .i64 d] := (Bx.new (b := w.heap.size) _ #[.int .i64 n, .int .i64 d] 26 (by first | rfl | simp)).below hb1
    obtain ⟨cF_1, fF_1, zF_1⟩ := xF_1.out
    rw [HC.out]
    go_wp2
    go_ret2
    rw [HR.out]
    exact ⟨none, 0, 0, rfl, OwnF.nil _ _, B1⟩

end Go.Proofs.Ytbonlompmnhmiaa
