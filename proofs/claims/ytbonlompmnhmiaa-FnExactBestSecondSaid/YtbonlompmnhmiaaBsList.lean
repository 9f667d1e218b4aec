/- Best approximations: the reference lists them. Each theorem names its conditions. -/
import Derived.Test.YtbonlompmnhmiaaBsRun
import Derived.Outline
namespace Go.Proofs.Ytbonlompmnhmiaa
open Go.RowKit
set_option linter.unusedVariables false
set_option linter.unusedSimpArgs false


theorem floor_small {n d : Int} (hd : 1 ≤ d) (hn : -1000000 ≤ n ∧ n ≤ 1000000) : -1000000 ≤ n / d ∧ n / d ≤ 1000000 := by
  have e := Int.mul_ediv_add_emod n d
  have r1 := Int.emod_nonneg n (show d ≠ 0 by omega)
  have r2 := Int.emod_lt_of_pos n (show 0 < d by omega)
  constructor
  · exact Int.le_ediv_of_mul_le (by omega) (by have := Int.mul_le_mul_of_nonneg_left hd (show (0:Int) ≤ 1000000 by omega); omega)
  · have := Int.ediv_le_ediv (show 0 < d by omega) hn.2
    have h2 : (1000000 : Int) / d ≤ 1000000 := Int.ediv_le_self _ (by omega)
    omega

theorem start_one {sec : Bool} {n d : Int} (hg : gcdI n d = 1) (hd : d = 1) : n / d = n ∧ Gd sec n d 1 (seeF (bestK sec n d (n / d) 1) (n / d, 1) []).1 (seeF (bestK sec n d (n / d) 1) (n / d, 1) []).2 := by
  subst hd
  have h := Int.ediv_one n
  refine ⟨h, ?_⟩
  rw [h]
  have g0 : Gd sec n 1 0 [] false := .inr ⟨rfl, rfl, by simp⟩
  have hb : bestK sec n 1 n 1 = true := by rw [best_own]; simp
  exact gd_step g0 (by rw [hb]; exact tgt_yes (k := 0) (by omega) hg (by omega) hb)
theorem start_two {sec : Bool} {n d : Int} (hg : gcdI n d = 1) (hd : 2 ≤ d) : ∃ L1, seeF (bestK sec n d (n / d) 1) (n / d, 1) [] = (L1, false) ∧ L1.length ≤ 1 ∧
    Gd sec n d 1 (seeF (bestK sec n d (n / d + 1) 1) (n / d + 1, 1) L1).1 (seeF (bestK sec n d (n / d + 1) 1) (n / d + 1, 1) L1).2 := by
  have sp := SP.start (N := n) (D := d) (m := 1) hg (by omega) (by omega)
  have hat := fun x => best_at sec (x := x) (by omega) sp (by omega) (by omega)
  have hi := fun x => best_iff sec (n := n) (d := d) (y := 1) (by omega) hg (by omega) (by omega) x
  have g0 : Gd sec n d 0 [] false := .inr ⟨rfl, rfl, by simp⟩
  cases h1 : bestK sec n d (n / d) 1 with
  | true =>
    have h2 : bestK sec n d (n / d + 1) 1 = false := by
      cases h2 : bestK sec n d (n / d + 1) 1 with
      | false => rfl
      | true =>
        have a1 := ((hi _).1 h1).1
        have a2 := ((hi _).1 h2).1
        omega
    refine ⟨[(n / d, 1)], by simp [seeF], by simp, ?_⟩
    rw [h2]
    exact .inr ⟨rfl, by rw [show (1 : Int).toNat = 0 + 1 from rfl, tgt_yes (k := 0) (x := n / d) (y := 1) (by omega) hg (by omega) h1]; rfl, by simp [seeF]⟩
  | false =>
    refine ⟨[], by simp [seeF], by simp, ?_⟩
    refine gd_step g0 ?_
    cases h2 : bestK sec n d (n / d + 1) 1 with
    | true => exact tgt_yes (k := 0) (by omega) hg (by omega) h2
    | false =>
      rw [show (1 : Int).toNat = 0 + 1 from rfl, tgt_no (fun x => ?_)]
      · simp
      · cases hx : bestK sec n d x ((0 + 1 : Nat) : Int) with
        | false => rfl
        | true =>
          rcases hat x hx with ⟨rfl, _⟩ | ⟨rfl, _⟩
          · exact absurd (show bestK sec n d (n / d) 1 = true from hx) (by rw [h1]; simp)
          · exact absurd (show bestK sec n d (n / d + 1) 1 = true from hx) (by rw [h2]; simp)
def ListP (w : World) (sec : Bool) (n d m : Int) (e : Ending) (w' : World) : Prop :=
  ∃ (a : Option Addr) (c : Nat) (L : List (Int × Int)) (f : Bool), e = .returned (.tuple #[.slice a L.length c, .bool (!f)]) ∧ OwnF w' w.heap.size (.slice a L.length c) L ∧ Gd sec n d (min m d) L f ∧ Bl w w'
theorem list_mk {w w' : World} {sec : Bool} {n d m Q : Int} {a : Option Addr} {c : Nat} {L : List (Int × Int)} {f : Bool} {x : Value} (hx : x = .bool (!f)) (ho : OwnF w' w.heap.size (.slice a L.length c) L) (hg : Gd sec n d Q L f) (ht : tgt sec n d (min m d).toNat = tgt sec n d Q.toNat) (hb : Bl w w') : ListP w sec n d m (.returned (.tuple #[.slice a L.length c, x])) w' := by
  subst hx; exact ⟨a, c, L, f, rfl, ho, gd_eq hg ht, hb⟩
/-- What holds between two runs. -/
structure Mid (sec : Bool) (n d m a b c e : Int) (L : List (Int × Int)) (f : Bool) : Prop where
  adj : Adj n d a b c e
  bm : b ≤ m
  em : e ≤ m
  ord : b + e ≤ m → if c * d - n * e < n * b - a * d then b ≤ e else e ≤ b
  gd : Gd sec n d (b + e - 1) L f

theorem Bx.congM {w : World} {b : Nat} {cs cs' : Array Value} (h : Bx w b cs) (e : cs = cs') : Bx w b cs' := e ▸ h
theorem lessK2 {x y n d : Int} {b : Bool} (h : decide (x * d < n * y) = b) (w : World) (h1 : -4000000000000000000 ≤ x * d) (h2 : x * d ≤ 4000000000000000000) (h3 : -4000000000000000000 ≤ n * y) (h4 : n * y ≤ 4000000000000000000) :
    Calls Try.prog 100 #[.agg #[.int .i64 x, .int .i64 y], .agg #[.int .i64 n, .int .i64 d]] w fun r w' => r = .returned (.bool b) ∧ Bl w w' := by
  subst h
  rcases Int.lt_trichotomy (x * d) (n * y) with q | q | q
  · rw [decide_eq_true q]; exact less_lt x y n d w h1 h2 h3 h4 q
  · rw [decide_eq_false (by omega)]; exact less_eq x y n d w h1 h2 h3 h4 q
  · rw [decide_eq_false (by omega)]; exact less_gt x y n d w h1 h2 h3 h4 q
theorem Mid.pos {sec : Bool} {n d m a b c e : Int} {L : List (Int × Int)} {f : Bool} (hg : gcdI n d = 1) (hd : 0 < d) (h : Mid sec n d m a b c e L f) (h1 : ¬ (a = n ∧ b = d)) (h2 : ¬ (c = n ∧ e = d)) : 0 < n * b - a * d ∧ 0 < c * d - n * e := by
  constructor
  · rcases Int.lt_or_le 0 (n * b - a * d) with g | g
    · exact g
    · exact absurd (h.adj.ownLow hg hd (by have := h.adj.lo; omega)) h1
  · rcases Int.lt_or_le 0 (c * d - n * e) with g | g
    · exact g
    · exact absurd (h.adj.ownHigh hg hd (by have := h.adj.hi; omega)) h2
structure RunL (sec : Bool) (s n d m a b c e : Int) (L : List (Int × Int)) (A l : Int) : Prop where
  way : Way s n d a b c e
  be : b ≤ e
  sum : b + e ≤ m
  xy : s * (c * d - n * e) ≤ s * (n * b - a * d)
  hA : A = s * (n * b - a * d) / (s * (c * d - n * e))
  hl : l = min A ((m - b) / e)
  gd : Gd sec n d (b + e - 1) L false
  pos : 1 ≤ l * e ∧ b + l * e ≤ m
theorem Mid.low {sec : Bool} {n d m a b c e : Int} {L : List (Int × Int)} (h : Mid sec n d m a b c e L false) (hX : 0 < n * b - a * d) (hY : 0 < c * d - n * e) (hm : b + e ≤ m) (hlt : c * d - n * e < n * b - a * d) :
    ∃ A l, RunL sec 1 n d m a b c e L A l ∧ ∀ L' f', Gd sec n d (b + (l + 1) * e - 1) L' f' → Mid sec n d m (a + l * c) (b + l * e) c e L' f' := by
  have ho := h.ord hm
  rw [if_pos hlt] at ho
  have hw := h.adj.lowWay hY
  have hb1 := h.adj.hb; have he1 := h.adj.he
  obtain ⟨A, hA⟩ : ∃ A, A = 1 * (n * b - a * d) / (1 * (c * d - n * e)) := ⟨_, rfl⟩
  obtain ⟨l, hl⟩ : ∃ l, l = min A ((m - b) / e) := ⟨_, rfl⟩
  have t := run_k0 hw.y0 hA hw.x0 (by omega)
  have u := run_last he1 t.1 hm hb1 hl
  have e1 : (l + 1) * e = l * e + e := by grind
  have hle := Int.mul_le_mul_of_nonneg_right u.1 (show 0 ≤ e by omega)
  have hlX := Int.mul_le_mul_of_nonneg_right u.2.1 (show 0 ≤ c * d - n * e by omega)
  have t2 := t.2.1; have t3 := t.2.2.1
  rw [Int.one_mul, Int.one_mul] at t2 t3
  refine ⟨A, l, ⟨hw, ho, hm, by omega, hA, hl, h.gd, by omega, u.2.2.1⟩, fun L' f' hG => ?_⟩
  refine ⟨h.adj.runLow (by omega) (by omega), u.2.2.1, h.em, fun hs => ?_, by rw [show b + l * e + e - 1 = b + (l + 1) * e - 1 by omega]; exact hG⟩
  have hlA : l = A := by
    rcases Int.lt_or_le l A with g | g
    · have := u.2.2.2.1 g; omega
    · omega
  subst hlA
  have e2 : n * (b + l * e) - (a + l * c) * d = (n * b - a * d) - l * (c * d - n * e) := by grind
  have e3 : (l + 1) * (c * d - n * e) = l * (c * d - n * e) + (c * d - n * e) := by grind
  rw [if_neg (by omega)]
  omega
theorem Mid.high {sec : Bool} {n d m a b c e : Int} {L : List (Int × Int)} (h : Mid sec n d m a b c e L false) (hX : 0 < n * b - a * d) (hY : 0 < c * d - n * e) (hm : b + e ≤ m) (hlt : ¬ c * d - n * e < n * b - a * d) :
    ∃ A l, RunL sec (-1) n d m c e a b L A l ∧ ∀ L' f', Gd sec n d (e + (l + 1) * b - 1) L' f' → Mid sec n d m a b (c + l * a) (e + l * b) L' f' := by
  have ho := h.ord hm
  rw [if_neg hlt] at ho
  have hw := h.adj.highWay hX
  have hb1 := h.adj.hb; have he1 := h.adj.he
  have f1 : -1 * (n * e - c * d) = c * d - n * e := by omega
  have f2 : -1 * (a * d - n * b) = n * b - a * d := by omega
  obtain ⟨A, hA⟩ : ∃ A, A = -1 * (n * e - c * d) / (-1 * (a * d - n * b)) := ⟨_, rfl⟩
  obtain ⟨l, hl⟩ : ∃ l, l = min A ((m - e) / b) := ⟨_, rfl⟩
  have t := run_k0 hw.y0 hA hw.x0 (by omega)
  have u := run_last hb1 t.1 (by omega) he1 hl
  have e1 : (l + 1) * b = l * b + b := by grind
  have hle := Int.mul_le_mul_of_nonneg_right u.1 (show 0 ≤ b by omega)
  have hlX := Int.mul_le_mul_of_nonneg_right u.2.1 (show 0 ≤ n * b - a * d by omega)
  have t2 := t.2.1; have t3 := t.2.2.1
  rw [f1, f2] at t2 t3
  refine ⟨A, l, ⟨hw, ho, by omega, by omega, hA, hl, by rw [show e + b - 1 = b + e - 1 by omega]; exact h.gd, by omega, u.2.2.1⟩, fun L' f' hG => ?_⟩
  refine ⟨h.adj.runHigh (by omega) (by omega), h.bm, u.2.2.1, fun hs => ?_, by rw [show b + (e + l * b) - 1 = e + (l + 1) * b - 1 by omega]; exact hG⟩
  have hlA : l = A := by
    rcases Int.lt_or_le l A with g | g
    · have := u.2.2.2.1 g; omega
    · omega
  subst hlA
  have e2 : (c + l * a) * d - n * (e + l * b) = (c * d - n * e) - l * (n * b - a * d) := by grind
  have e3 : (l + 1) * (n * b - a * d) = l * (n * b - a * d) + (n * b - a * d) := by grind
  rw [if_pos (by omega)]
  omega

set_option maxRecDepth 100000 in
set_option maxHeartbeats 12800000 in
theorem list_any (n d m : Int) (sec : Bool) (w : World) (ok : okF n d = true) (hn : -1000000 ≤ n ∧ n ≤ 1000000) (hd : d ≤ 1000000) (hm : 1 ≤ m ∧ m ≤ 1000000) :
    Calls Try.prog 79 #[.agg #[.int .i64 n, .int .i64 d], .int .i64 m, .bool sec] w (ListP w sec n d m) := by
  have hok := okF_bd ok
  have HOK := Lib.hid ok
  have hfd := floor_small (n := n) (d := d) (by omega) hn
  clear ok
  go_enter Try.func79, Try.ntmps79
  go_wp2_with fail
  refine (floorB_any n d _ (by omega) (by omega) (by omega) (by omega)).mono ?_
  rintro e wr1 ⟨rfl, hbr1⟩
  have Br1 : Bl w wr1 := bl_call (bl_alloc (bl_alloc (bl_alloc (bl_refl _) _) _) _) hbr1
  have xF_r1 : Bx wr1 (w.heap.size) #[.int .i64 (n), .int .i64 (d)] := (((Bx.new (b := w.heap.size) _ #[.int .i64 (n), .int .i64 (d)] 26 (by first | rfl | simp)).alloc _).alloc _).below hbr1
  have xE_r1 : Bx wr1 (w.heap.size + 1) #[] := ((Bx.new (b := w.heap.size + 1) _ #[] 26 (by first | rfl | simp)).alloc _).below hbr1
  have xP_r1 : Bx wr1 (w.heap.size + 1 + 1) #[.int .i64 (n), .int .i64 (d), .bool sec, .slice (some ⟨w.heap.size + 1, 0, none⟩) 0 0, .bool false] := (Bx.new (b := w.heap.size + 1 + 1) _ #[.int .i64 (n), .int .i64 (d), .bool sec, .slice (some ⟨w.heap.size + 1, 0, none⟩) 0 0, .bool false] 98 (by first | rfl | simp)).below hbr1
  obtain ⟨cF_r1, fF_r1, zF_r1⟩ := xF_r1.out
  obtain ⟨cE_r1, fE_r1, zE_r1⟩ := xE_r1.out
  obtain ⟨cP_r1, fP_r1, zP_r1⟩ := xP_r1.out
  have ho1 : OwnF wr1 w.heap.size (.slice (some ⟨w.heap.size + 1, 0, none⟩) 0 0) [] := ((ownF_made (w.alloc (.cells #[.int .i64 n, .int .i64 d] 26)) (B := w.heap.size) (k := w.heap.size + 1) (by simp) (by simp)).alloc _).below hbr1
  have HO1 := Lib.hid ho1
  clear ho1
  have hzr : w.heap.size + 1 + 1 + 1 ≤ wr1.heap.size := by have := hbr1.size; simpa using this
  have HO2 := Lib.hid ((HO1.out.alloc (.cells #[.int .i64 (n / d), .int .i64 (1)] 26)).alloc (.cells #[.int .i64 (n / d + 1), .int .i64 (1)] 26))
  go_wp2_with fail
  have Br2 : Bl w ((wr1.alloc (.cells #[.int .i64 (n / d), .int .i64 (1)] 26)).alloc (.cells #[.int .i64 (n / d + 1), .int .i64 (1)] 26)) := (bl_alloc (bl_alloc Br1 _) _)
  have xF_r2 : Bx ((wr1.alloc (.cells #[.int .i64 (n / d), .int .i64 (1)] 26)).alloc (.cells #[.int .i64 (n / d + 1), .int .i64 (1)] 26)) (w.heap.size) #[.int .i64 (n), .int .i64 (d)] := ((xF_r1.alloc _).alloc _)
  have xE_r2 : Bx ((wr1.alloc (.cells #[.int .i64 (n / d), .int .i64 (1)] 26)).alloc (.cells #[.int .i64 (n / d + 1), .int .i64 (1)] 26)) (w.heap.size + 1) #[] := ((xE_r1.alloc _).alloc _)
  have xP_r2 : Bx ((wr1.alloc (.cells #[.int .i64 (n / d), .int .i64 (1)] 26)).alloc (.cells #[.int .i64 (n / d + 1), .int .i64 (1)] 26)) (w.heap.size + 1 + 1) #[.int .i64 (n), .int .i64 (d), .bool sec, .slice (some ⟨w.heap.size + 1, 0, none⟩) 0 0, .bool false] := ((xP_r1.alloc _).alloc _)
  have xA_r2 : Bx ((wr1.alloc (.cells #[.int .i64 (n / d), .int .i64 (1)] 26)).alloc (.cells #[.int .i64 (n / d + 1), .int .i64 (1)] 26)) (wr1.heap.size) #[.int .i64 (n / d), .int .i64 (1)] := ((Bx.new (b := wr1.heap.size) _ #[.int .i64 (n / d), .int .i64 (1)] 26 (by first | rfl | simp)).alloc _)
  have xC_r2 : Bx ((wr1.alloc (.cells #[.int .i64 (n / d), .int .i64 (1)] 26)).alloc (.cells #[.int .i64 (n / d + 1), .int .i64 (1)] 26)) (wr1.heap.size + 1) #[.int .i64 (n / d + 1), .int .i64 (1)] := (Bx.new (b := wr1.heap.size + 1) _ #[.int .i64 (n / d + 1), .int .i64 (1)] 26 (by first | rfl | simp))
  have zzr2 : wr1.heap.size + 2 ≤ ((wr1.alloc (.cells #[.int .i64 (n / d), .int .i64 (1)] 26)).alloc (.cells #[.int .i64 (n / d + 1), .int .i64 (1)] 26)).heap.size := (by simp)
  clear cF_r1 fF_r1 zF_r1 cE_r1 fE_r1 zE_r1 cP_r1 fP_r1 zP_r1
  generalize ((wr1.alloc (.cells #[.int .i64 (n / d), .int .i64 (1)] 26)).alloc (.cells #[.int .i64 (n / d + 1), .int .i64 (1)] 26)) = wr2 at *
  obtain ⟨cF_r2, fF_r2, zF_r2⟩ := xF_r2.out
  obtain ⟨cE_r2, fE_r2, zE_r2⟩ := xE_r2.out
  obtain ⟨cP_r2, fP_r2, zP_r2⟩ := xP_r2.out
  obtain ⟨cA_r2, fA_r2, zA_r2⟩ := xA_r2.out
  obtain ⟨cC_r2, fC_r2, zC_r2⟩ := xC_r2.out
  by_cases hd1 : d = 1
  ·
    have HD := Lib.hid (start_one (sec := sec) hok.2.2.2.2 hd1)
    have k1 : (n / d == n) = true := by simp [HD.out.1]
    have k2 : ((1 : Int) == d) = true := by simp [hd1]
    have HD1 := Lib.hid hd1
    clear hd1
    have HS1 := Lib.hid (show Sm2 n d (n / d) 1 from ⟨by omega, by omega, by omega, by omega, by omega, by omega, by omega, by omega, hok.2.2.2.2, HOK.out⟩)
    have hzA : w.heap.size + 1 + 1 + 1 ≤ wr1.heap.size := hzr
    have HRW0 := Lib.hid (show (Value.slice (some ⟨w.heap.size + 1, 0, none⟩) ([] : List (Int × Int)).length 0).ownBlock ≠ some (w.heap.size + 1 + 1) by simp [Value.ownBlock])
    refine (see_any (L := []) (B := w.heap.size) xP_r2 HO2.out (by have := Br2.size; omega) HRW0.out HS1.out (by simp)).mono ?_
    rintro r9 w3 ⟨rfl, hu3, v1, xP3, ho3, hr3⟩
    have HO3 := Lib.hid ho3
    have hus3 := hu3.size
    have xF3 := xF_r2.upv hu3 (by omega) (by simp [Value.ownBlock])
    have xA3 := xA_r2.upv hu3 (by omega) (by simp [Value.ownBlock]; omega)
    have xC3 := xC_r2.upv hu3 (by omega) (by simp [Value.ownBlock]; omega)
    have B3 := bl_upv Br2 hu3 (by omega) (fun k hk => by simp [Value.ownBlock] at hk; omega)
    have HNE3 := Lib.hid (show v1.ownBlock ≠ some (w.heap.size) ∧ v1.ownBlock ≠ some (w.heap.size + 1 + 1) ∧ v1.ownBlock ≠ some (wr1.heap.size) ∧ v1.ownBlock ≠ some (wr1.heap.size + 1) from ⟨ne_rowK hr3 (by simp [Value.ownBlock]) xF_r2.out.2.2, ne_rowK hr3 (by simp [Value.ownBlock]) xP_r2.out.2.2, ne_rowK hr3 (by simp [Value.ownBlock]; omega) xA_r2.out.2.2, ne_rowK hr3 (by simp [Value.ownBlock]; omega) xC_r2.out.2.2⟩)
    clear hr3 ho3 cF_r2 fF_r2 zF_r2 cE_r2 fE_r2 zE_r2 cP_r2 fP_r2 zP_r2 cA_r2 fA_r2 zA_r2 cC_r2 fC_r2 zC_r2
    obtain ⟨L1, f1, hR⟩ : ∃ L f, seeF (bestK sec n d (n / d) 1) (n / d, 1) [] = (L, f) := ⟨_, _, rfl⟩
    rw [hR] at HD HO3 xP3
    simp only [] at HD HO3 xP3
    have HT := Lib.hid (show tgt sec n d (min m d).toNat = tgt sec n d (1 : Int).toNat by rw [HD1.out, show min m 1 = 1 by omega])
    clear hR
    obtain ⟨c1, f1', z1⟩ := xF3.out
    obtain ⟨c2, f2', z2⟩ := xP3.out
    obtain ⟨c3, f3', z3⟩ := xA3.out
    obtain ⟨c4, f4', z4⟩ := xC3.out
    go_wp2_with fail
    clear c1 f1' z1 c2 f2' z2 c3 f3' z3 c4 f4' z4
    go_loopg [11] 0 (fun k s11 wr => Bx wr (w.heap.size) #[.int .i64 n, .int .i64 d] ∧ Bx wr (w.heap.size + 1 + 1) #[.int .i64 n, .int .i64 d, .bool sec, v1, .bool f1] ∧ Bx wr (wr1.heap.size) #[.int .i64 (n / d), .int .i64 1] ∧ Bx wr (wr1.heap.size + 1) #[.int .i64 (n / d + 1), .int .i64 1] ∧ OwnF wr w.heap.size v1 L1 ∧ Hid (v1.ownBlock ≠ some (w.heap.size) ∧ v1.ownBlock ≠ some (w.heap.size + 1 + 1) ∧ v1.ownBlock ≠ some (wr1.heap.size) ∧ v1.ownBlock ≠ some (wr1.heap.size + 1)) ∧ Bl w wr)
    case atStart => exact ⟨xF3, xP3, xA3, xC3, HO3.out, HNE3, B3⟩
    case round =>
      obtain ⟨xF, xP, xA, xC, ho, HNE, BX⟩ := hrel
      have HOX := Lib.hid ho
      obtain ⟨va, vc, rfl, _⟩ := ho.form
      have HGX := Lib.hid HD.out.2
      clear ho
      obtain ⟨c1, f1', z1⟩ := xF.out
      obtain ⟨c2, f2', z2⟩ := xP.out
      obtain ⟨c3, f3', z3⟩ := xA.out
      obtain ⟨c4, f4', z4⟩ := xC.out
      go_wp2_with fail
      go_region
      all_goals go_wp2
      all_goals go_ret2
      all_goals exact list_mk rfl HOX.out.drew HGX.out HT.out (bl_drew BX)
  ·
    obtain ⟨L1, hR, hL1, hG⟩ := start_two (sec := sec) hok.2.2.2.2 (show 2 ≤ d by omega)
    have HR := Lib.hid hR
    have HG := Lib.hid hG
    have k2 : ((1 : Int) == d) = false := by simp; omega
    clear hR hG
    have HS1 := Lib.hid (show Sm2 n d (n / d) 1 from ⟨by omega, by omega, by omega, by omega, by omega, by omega, by omega, by omega, hok.2.2.2.2, HOK.out⟩)
    have hzA : w.heap.size + 1 + 1 + 1 ≤ wr1.heap.size := hzr
    have HRW0 := Lib.hid (show (Value.slice (some ⟨w.heap.size + 1, 0, none⟩) ([] : List (Int × Int)).length 0).ownBlock ≠ some (w.heap.size + 1 + 1) by simp [Value.ownBlock])
    refine (see_any (L := []) (B := w.heap.size) xP_r2 HO2.out (by have := Br2.size; omega) HRW0.out HS1.out (by simp)).mono ?_
    rintro r9 w3 ⟨rfl, hu3, v1, xP3, ho3, hr3⟩
    have HO3 := Lib.hid ho3
    have hus3 := hu3.size
    have xF3 := xF_r2.upv hu3 (by omega) (by simp [Value.ownBlock])
    have xA3 := xA_r2.upv hu3 (by omega) (by simp [Value.ownBlock]; omega)
    have xC3 := xC_r2.upv hu3 (by omega) (by simp [Value.ownBlock]; omega)
    have B3 := bl_upv Br2 hu3 (by omega) (fun k hk => by simp [Value.ownBlock] at hk; omega)
    have HNE3 := Lib.hid (show v1.ownBlock ≠ some (w.heap.size) ∧ v1.ownBlock ≠ some (w.heap.size + 1 + 1) ∧ v1.ownBlock ≠ some (wr1.heap.size) ∧ v1.ownBlock ≠ some (wr1.heap.size + 1) from ⟨ne_rowK hr3 (by simp [Value.ownBlock]) xF_r2.out.2.2, ne_rowK hr3 (by simp [Value.ownBlock]) xP_r2.out.2.2, ne_rowK hr3 (by simp [Value.ownBlock]; omega) xA_r2.out.2.2, ne_rowK hr3 (by simp [Value.ownBlock]; omega) xC_r2.out.2.2⟩)
    clear hr3 ho3 cF_r2 fF_r2 zF_r2 cE_r2 fE_r2 zE_r2 cP_r2 fP_r2 zP_r2 cA_r2 fA_r2 zA_r2 cC_r2 fC_r2 zC_r2
    rw [HR.out] at HO3 xP3
    simp only [] at HO3 xP3
    have ho3 := HO3.out
    obtain ⟨va, vc, rfl, _⟩ := ho3.form
    clear ho3
    have HS2 := Lib.hid (show Sm2 n d (n / d + 1) 1 from by
      have hst := Adj.start (N := n) (D := d) (by omega)
      have hx : 0 < n * 1 - n / d * d := by
        rcases Int.lt_or_le 0 (n * 1 - n / d * d) with q | q
        · exact q
        · have := (hst.ownLow hok.2.2.2.2 (by omega) (by have := hst.lo; omega)).2
          omega
      have := (hst.highWay hx).small hok.2.2.2.2 (by omega) hn
      exact ⟨by omega, by omega, by omega, by omega, by omega, by omega, by omega, by omega, hok.2.2.2.2, HOK.out⟩)
    obtain ⟨c1, f1', z1⟩ := xF3.out
    obtain ⟨c2, f2', z2⟩ := xP3.out
    obtain ⟨c3, f3', z3⟩ := xA3.out
    obtain ⟨c4, f4', z4⟩ := xC3.out
    go_wp2_with fail
    refine (see_any (L := L1) (B := w.heap.size) xP3 HO3.out (by have := B3.size; omega) HNE3.out.2.1 HS2.out (by omega)).mono ?_
    rintro r9 w4 ⟨rfl, hu4, v4, xP4, ho4, hr4⟩
    have HO4 := Lib.hid ho4
    have xF4 := xF3.upv hu4 (by omega) HNE3.out.1
    have xA4 := xA3.upv hu4 (by omega) HNE3.out.2.2.1
    have xC4 := xC3.upv hu4 (by omega) HNE3.out.2.2.2
    have B4 := bl_upv B3 hu4 (by omega) (fun k hk => (HO3.out.lt k hk).1)
    have HNE4 := Lib.hid (show v4.ownBlock ≠ some (w.heap.size) ∧ v4.ownBlock ≠ some (w.heap.size + 1 + 1) ∧ v4.ownBlock ≠ some (wr1.heap.size) ∧ v4.ownBlock ≠ some (wr1.heap.size + 1) from ⟨ne_rowK hr4 HNE3.out.1 z1, ne_rowK hr4 HNE3.out.2.1 z2, ne_rowK hr4 HNE3.out.2.2.1 z3, ne_rowK hr4 HNE3.out.2.2.2 z4⟩)
    have HMID := Lib.hid (show Mid sec n d m (n / d) 1 (n / d + 1) 1 (seeF (bestK sec n d (n / d + 1) 1) (n / d + 1, 1) L1).1 (seeF (bestK sec n d (n / d + 1) 1) (n / d + 1, 1) L1).2 from
      ⟨Adj.start (by omega), hm.1, hm.1, fun _ => by split <;> omega, HG.out⟩)
    clear c1 f1' z1 c2 f2' z2 c3 f3' z3 c4 f4' z4 hr4 ho4 k2
    have q0 : (((2 * m - 2).toNat : Nat) : Int) = 2 * m - 1 - 1 := by omega
    go_wp2_with fail
    go_loopg [11] (2 * m - 2).toNat (fun k s11 wr => ∃ (a b c e : Int) (L2 : List (Int × Int)) (f2 : Bool) (v1 : Value), ((k : Int) = 2 * m - b - e) ∧ Bx wr (w.heap.size) #[.int .i64 n, .int .i64 d] ∧ Bx wr (w.heap.size + 1 + 1) #[.int .i64 n, .int .i64 d, .bool sec, v1, .bool f2] ∧ Bx wr (wr1.heap.size) #[.int .i64 a, .int .i64 b] ∧ Bx wr (wr1.heap.size + 1) #[.int .i64 c, .int .i64 e] ∧ OwnF wr w.heap.size v1 L2 ∧ Hid (v1.ownBlock ≠ some (w.heap.size) ∧ v1.ownBlock ≠ some (w.heap.size + 1 + 1) ∧ v1.ownBlock ≠ some (wr1.heap.size) ∧ v1.ownBlock ≠ some (wr1.heap.size + 1)) ∧ Bl w wr ∧ Hid (Mid sec n d m a b c e L2 f2))
    case atStart => exact ⟨_, _, _, _, _, _, _, q0, xF4, xP4, xA4, xC4, HO4.out, HNE4, B4, HMID⟩
    case round =>
      obtain ⟨a, b, c, e, L2, f2, v1, hk, xF, xP, xA, xC, ho, HNE, Br, HMD⟩ := hrel
      have HO := Lib.hid ho
      obtain ⟨va, vc, rfl, _⟩ := ho.form
      clear ho
      have HK := Lib.hid hk
      have hkm : (2 * m - b - e).toNat = gk := by omega
      have HKM := Lib.hid hkm
      have hb1 := HMD.out.adj.hb
      have he1 := HMD.out.adj.he
      have hbm := HMD.out.bm
      have hem := HMD.out.em
      clear hk hkm
      by_cases hq1 : a = n ∧ b = d
      ·
        have HGX := Lib.hid (gd_eq HMD.out.gd (HMD.out.adj.done hok.2.2.2.2 (by omega) hbm hem (.inl hq1)).symm)
        have k1 : (a == n) = true := by simp [hq1.1]
        have k2 : (b == d) = true := by simp [hq1.2]
        clear hq1
        obtain ⟨c1, f1', z1⟩ := xF.out
        obtain ⟨c2, f2', z2⟩ := xP.out
        obtain ⟨c3, f3', z3⟩ := xA.out
        obtain ⟨c4, f4', z4⟩ := xC.out
        go_wp2_with fail
        all_goals (go_region; all_goals go_wp2; all_goals go_ret2; all_goals exact list_mk rfl HO.out.drew HGX.out rfl (bl_drew Br))
      · have K1 : (a == n && b == d) = false := by
          cases h1 : (a == n && b == d) with
          | false => rfl
          | true => simp at h1; exact absurd h1 hq1
        by_cases hq2 : c = n ∧ e = d
        ·
          have HGX := Lib.hid (gd_eq HMD.out.gd (HMD.out.adj.done hok.2.2.2.2 (by omega) hbm hem (.inr (.inl hq2))).symm)
          have k1 : (c == n) = true := by simp [hq2.1]
          have k2 : (e == d) = true := by simp [hq2.2]
          clear hq1 hq2
          obtain ⟨c1, f1', z1⟩ := xF.out
          obtain ⟨c2, f2', z2⟩ := xP.out
          obtain ⟨c3, f3', z3⟩ := xA.out
          obtain ⟨c4, f4', z4⟩ := xC.out
          go_wp2_with fail
          all_goals (go_region; all_goals go_wp2; all_goals go_ret2; all_goals exact list_mk rfl HO.out.drew HGX.out rfl (bl_drew Br))
        · have K2 : (c == n && e == d) = false := by
            cases h1 : (c == n && e == d) with
            | false => rfl
            | true => simp at h1; exact absurd h1 hq2
          by_cases hq3 : m < b + e
          ·
            have HGX := Lib.hid (gd_eq HMD.out.gd (HMD.out.adj.done hok.2.2.2.2 (by omega) hbm hem (.inr (.inr hq3))).symm)
            have k3 : ¬ b + e ≤ m := by omega
            clear hq1 hq2
            obtain ⟨c1, f1', z1⟩ := xF.out
            obtain ⟨c2, f2', z2⟩ := xP.out
            obtain ⟨c3, f3', z3⟩ := xA.out
            obtain ⟨c4, f4', z4⟩ := xC.out
            go_wp2_with fail
            all_goals (go_region; all_goals go_wp2; all_goals go_ret2; all_goals exact list_mk rfl HO.out.drew HGX.out rfl (bl_drew Br))
          · have k3 : b + e ≤ m := by omega
            cases f2 with
            | true =>
              have HGX := Lib.hid (gd_full (L' := L2) (Q' := min m d) HMD.out.gd (HMD.out.adj.early hok.2.2.2.2 (by omega) hq1 hq2 k3))
              clear hq1 hq2
              obtain ⟨c1, f1', z1⟩ := xF.out
              obtain ⟨c2, f2', z2⟩ := xP.out
              obtain ⟨c3, f3', z3⟩ := xA.out
              obtain ⟨c4, f4', z4⟩ := xC.out
              go_wp2_with fail
              all_goals (go_region; all_goals go_wp2; all_goals go_ret2; all_goals exact list_mk rfl HO.out.drew HGX.out rfl (bl_drew Br))
            | false =>
              obtain ⟨hX, hY⟩ := HMD.out.pos hok.2.2.2.2 (by omega) hq1 hq2
              have sl := (HMD.out.adj.lowWay hY).small hok.2.2.2.2 (by omega) hn
              have sh := (HMD.out.adj.highWay hX).small hok.2.2.2.2 (by omega) hn
              have p1 : -9000000000000 ≤ (a + 1 * c) * d ∧ (a + 1 * c) * d ≤ 9000000000000 := by
                have q1 := prod_bdK (k := d) (c := a) (by omega) (by omega)
                have q2 := prod_bdK (k := d) (c := c) (by omega) (by omega)
                have : (a + 1 * c) * d = d * a + d * c := by grind
                omega
              have p2 : -9000000000000 ≤ n * (b + 1 * e) ∧ n * (b + 1 * e) ≤ 9000000000000 := by
                have q1 := prod_bdK (k := b) (c := n) (by omega) (by omega)
                have q2 := prod_bdK (k := e) (c := n) (by omega) (by omega)
                have : n * (b + 1 * e) = b * n + e * n := by grind
                omega
              have p3 : n * (b + 1 * e) - (a + 1 * c) * d = (n * b - a * d) - (c * d - n * e) := by grind
              obtain ⟨x9, hx9⟩ : ∃ x, a + 1 * c = x := ⟨_, rfl⟩
              obtain ⟨y9, hy9⟩ : ∃ x, b + 1 * e = x := ⟨_, rfl⟩
              rw [hx9, hy9] at p3
              rw [hx9] at p1
              rw [hy9] at p2
              have HX9 := Lib.hid hx9
              have HY9 := Lib.hid hy9
              have HQ1 := Lib.hid hq1
              have HQ2 := Lib.hid hq2
              clear hx9 hy9 hq1 hq2 hq3 K1 K2
              by_cases hlt : c * d - n * e < n * b - a * d
              ·
                obtain ⟨A, l, HRL, HNX⟩ := HMD.out.low hX hY k3 hlt
                have HLT := Lib.hid (show decide (x9 * d < n * y9) = true from decide_eq_true (by omega))
                have pb := HRL.pos
                have HRL := Lib.hid HRL
                have HNX := Lib.hid HNX
                clear hlt hX hY p3
                obtain ⟨c1, f1', z1⟩ := xF.out
                obtain ⟨c2, f2', z2⟩ := xP.out
                obtain ⟨c3, f3', z3⟩ := xA.out
                obtain ⟨c4, f4', z4⟩ := xC.out
                have hzr := Br.size
                go_upto_region 7 with fail
                go_cut [59] (fun s59 wx => s59 = .bool true ∧ Bl wr wx)
                case first =>
                  go_wp2_with fail
                  all_goals (first | (exact absurd ⟨by assumption, by assumption⟩ HQ1.out) | (exact absurd ⟨by assumption, by assumption⟩ HQ2.out) | (go_meet; exact ⟨rfl, bl_refl _⟩))
                case rest =>
                 obtain ⟨rfl, hj⟩ := hcut
                 obtain ⟨w0', hw0'⟩ : ∃ x : World, x = wc := ⟨_, rfl⟩
                 rw [← hw0'] at hj
                 rw [← hw0']
                 clear hw0'
                 have xF := xF.below hj
                 have xP := xP.below hj
                 have xA := xA.below hj
                 have xC := xC.below hj
                 have HO := Lib.hid (HO.out.below hj)
                 have Br := bl_call Br hj
                 clear c1 f1' z1 c2 f2' z2 c3 f3' z3 c4 f4' z4 hzr
                 obtain ⟨c1, f1', z1⟩ := xF.out
                 obtain ⟨c2, f2', z2⟩ := xP.out
                 obtain ⟨c3, f3', z3⟩ := xA.out
                 obtain ⟨c4, f4', z4⟩ := xC.out
                 have hzr := Br.size
                 go_wp2_with fail
                 refine (plusK HX9.out HY9.out _ (by omega) (by omega) (by omega) (by omega)).mono ?_
                 rintro r9 w5 ⟨rfl, hb5⟩
                 have xF5 := (xF.below hb5).alloc (.cells #[.int .i64 x9, .int .i64 y9] 26)
                 have xP5 := (xP.below hb5).alloc (.cells #[.int .i64 x9, .int .i64 y9] 26)
                 have xA5 := (xA.below hb5).alloc (.cells #[.int .i64 x9, .int .i64 y9] 26)
                 have xC5 := (xC.below hb5).alloc (.cells #[.int .i64 x9, .int .i64 y9] 26)
                 have xM5 : Bx (w5.alloc (.cells #[.int .i64 x9, .int .i64 y9] 26)) w5.heap.size #[.int .i64 x9, .int .i64 y9] := Bx.new (b := w5.heap.size) _ _ _ rfl
                 have HO5 := Lib.hid ((HO.out.below hb5).alloc (.cells #[.int .i64 x9, .int .i64 y9] 26))
                 have B5 : Bl w (w5.alloc (.cells #[.int .i64 x9, .int .i64 y9] 26)) := bl_alloc (bl_call Br hb5) _
                 clear c1 f1' z1 c2 f2' z2 c3 f3' z3 c4 f4' z4
                 obtain ⟨c1, f1', z1⟩ := ((xF.below hb5)).out
                 obtain ⟨c2, f2', z2⟩ := ((xP.below hb5)).out
                 obtain ⟨c3, f3', z3⟩ := ((xA.below hb5)).out
                 obtain ⟨c4, f4', z4⟩ := ((xC.below hb5)).out
                 go_wp2_with fail
                 clear c1 f1' z1 c2 f2' z2 c3 f3' z3 c4 f4' z4
                 generalize w5.alloc (.cells #[.int .i64 x9, .int .i64 y9] 26) = w6 at *
                 obtain ⟨c1, f1', z1⟩ := xF5.out
                 obtain ⟨c2, f2', z2⟩ := xP5.out
                 obtain ⟨c3, f3', z3⟩ := xA5.out
                 obtain ⟨c4, f4', z4⟩ := xC5.out
                 refine (lessK2 HLT.out _ (by omega) (by omega) (by omega) (by omega)).mono ?_
                 rintro r9 w7 ⟨rfl, hb7⟩
                 have xF7 := xF5.below hb7
                 have xP7 := xP5.below hb7
                 have xA7 := xA5.below hb7
                 have xC7 := xC5.below hb7
                 have HO7 := Lib.hid (HO5.out.below hb7)
                 have B7 := bl_call B5 hb7
                 have hz7 := B7.size
                 have hs57 := hb5.size
                 clear c1 f1' z1 c2 f2' z2 c3 f3' z3 c4 f4' z4
                 obtain ⟨c1, f1', z1⟩ := xF7.out
                 obtain ⟨c2, f2', z2⟩ := xP7.out
                 obtain ⟨c3, f3', z3⟩ := xA7.out
                 obtain ⟨c4, f4', z4⟩ := xC7.out
                 go_wp2_with fail
                 refine (run_any (B := w.heap.size) xP7 HO7.out hz7 HNE.out.2.1 HOK.out hn hd hm.2 HRL.out.way HRL.out.be HRL.out.sum HRL.out.xy HRL.out.hA HRL.out.hl HRL.out.gd).mono ?_
                 rintro r9 w8 ⟨rfl, hu8, v8, L8, f8, xP8, ho8, hr8, hg8⟩
                 have xF8 := xF7.upv hu8 (by omega) HNE.out.1
                 have xA8 := xA7.upv hu8 (by omega) HNE.out.2.2.1
                 have xC8 := xC7.upv hu8 (by omega) HNE.out.2.2.2
                 have B8 := bl_upv B7 hu8 (by omega) (fun k hk => (HO7.out.lt k hk).1)
                 have HNE8 := Lib.hid (show v8.ownBlock ≠ some (w.heap.size) ∧ v8.ownBlock ≠ some (w.heap.size + 1 + 1) ∧ v8.ownBlock ≠ some (wr1.heap.size) ∧ v8.ownBlock ≠ some (wr1.heap.size + 1) from ⟨ne_rowK hr8 HNE.out.1 z1, ne_rowK hr8 HNE.out.2.1 z2, ne_rowK hr8 HNE.out.2.2.1 z3, ne_rowK hr8 HNE.out.2.2.2 z4⟩)
                 have HM8 := Lib.hid (HNX.out L8 f8 hg8)
                 have HO8 := Lib.hid ho8
                 obtain ⟨xl, hxl⟩ : ∃ x, a + l * c = x := ⟨_, rfl⟩
                 obtain ⟨yl, hyl⟩ : ∃ x, b + l * e = x := ⟨_, rfl⟩
                 rw [hxl, hyl] at HM8
                 rw [hxl, hyl]
                 rw [hyl] at pb
                 have hyb : b + 1 ≤ yl := by omega
                 have hkm1 := HKM.out
                 have hkm2 : (2 * m - yl - e).toNat < gk := by omega
                 have hkm3 : (((2 * m - yl - e).toNat : Nat) : Int) = 2 * m - yl - e := by omega
                 clear c1 f1' z1 c2 f2' z2 c3 f3' z3 c4 f4' z4 hxl hyl ho8 hr8 hg8
                 obtain ⟨cT, fT, zT⟩ := xA8.out
                 have uR := upd_set (upd_set (upd_refl w8 (wr1.heap.size)) 0 (.int .i64 xl)) 1 (.int .i64 yl)
                 have hTF : w.heap.size ≠ wr1.heap.size := by omega
                 have hTP : w.heap.size + 1 + 1 ≠ wr1.heap.size := by omega
                 have hTO : wr1.heap.size + 1 ≠ wr1.heap.size := by omega
                 have xF9 := xF8.upd uR hTF
                 have xP9 := xP8.upd uR hTP
                 have xO9 := xC8.upd uR hTO
                 have xT9 := Bx.congM ((xA8.set 0 (.int .i64 xl)).set 1 (.int .i64 yl)) (show _ = #[.int .i64 xl, .int .i64 yl] by simp)
                 have HO9 := Lib.hid (HO8.out.upd uR HNE8.out.2.2.1)
                 have B9 := bl_upd B8 uR (by omega)
                 go_wp2
                 go_roundg (2 * m - yl - e).toNat
                 case rel => exact ⟨_, _, _, _, L8, f8, v8, hkm3, xF9, xP9, xT9, xO9, HO9.out, HNE8, B9, HM8⟩
                 case measure => exact hkm2
              ·
                obtain ⟨A, l, HRL, HNX⟩ := HMD.out.high hX hY k3 hlt
                have HLT := Lib.hid (show decide (x9 * d < n * y9) = false from decide_eq_false (by omega))
                have pb := HRL.pos
                have HRL := Lib.hid HRL
                have HNX := Lib.hid HNX
                clear hlt hX hY p3
                obtain ⟨c1, f1', z1⟩ := xF.out
                obtain ⟨c2, f2', z2⟩ := xP.out
                obtain ⟨c3, f3', z3⟩ := xA.out
                obtain ⟨c4, f4', z4⟩ := xC.out
                have hzr := Br.size
                go_upto_region 7 with fail
                go_cut [59] (fun s59 wx => s59 = .bool true ∧ Bl wr wx)
                case first =>
                  go_wp2_with fail
                  all_goals (first | (exact absurd ⟨by assumption, by assumption⟩ HQ1.out) | (exact absurd ⟨by assumption, by assumption⟩ HQ2.out) | (go_meet; exact ⟨rfl, bl_refl _⟩))
                case rest =>
                 obtain ⟨rfl, hj⟩ := hcut
                 obtain ⟨w0', hw0'⟩ : ∃ x : World, x = wc := ⟨_, rfl⟩
                 rw [← hw0'] at hj
                 rw [← hw0']
                 clear hw0'
                 have xF := xF.below hj
                 have xP := xP.below hj
                 have xA := xA.below hj
                 have xC := xC.below hj
                 have HO := Lib.hid (HO.out.below hj)
                 have Br := bl_call Br hj
                 clear c1 f1' z1 c2 f2' z2 c3 f3' z3 c4 f4' z4 hzr
                 obtain ⟨c1, f1', z1⟩ := xF.out
                 obtain ⟨c2, f2', z2⟩ := xP.out
                 obtain ⟨c3, f3', z3⟩ := xA.out
                 obtain ⟨c4, f4', z4⟩ := xC.out
                 have hzr := Br.size
                 go_wp2_with fail
                 refine (plusK HX9.out HY9.out _ (by omega) (by omega) (by omega) (by omega)).mono ?_
                 rintro r9 w5 ⟨rfl, hb5⟩
                 have xF5 := (xF.below hb5).alloc (.cells #[.int .i64 x9, .int .i64 y9] 26)
                 have xP5 := (xP.below hb5).alloc (.cells #[.int .i64 x9, .int .i64 y9] 26)
                 have xA5 := (xA.below hb5).alloc (.cells #[.int .i64 x9, .int .i64 y9] 26)
                 have xC5 := (xC.below hb5).alloc (.cells #[.int .i64 x9, .int .i64 y9] 26)
                 have xM5 : Bx (w5.alloc (.cells #[.int .i64 x9, .int .i64 y9] 26)) w5.heap.size #[.int .i64 x9, .int .i64 y9] := Bx.new (b := w5.heap.size) _ _ _ rfl
                 have HO5 := Lib.hid ((HO.out.below hb5).alloc (.cells #[.int .i64 x9, .int .i64 y9] 26))
                 have B5 : Bl w (w5.alloc (.cells #[.int .i64 x9, .int .i64 y9] 26)) := bl_alloc (bl_call Br hb5) _
                 clear c1 f1' z1 c2 f2' z2 c3 f3' z3 c4 f4' z4
                 obtain ⟨c1, f1', z1⟩ := ((xF.below hb5)).out
                 obtain ⟨c2, f2', z2⟩ := ((xP.below hb5)).out
                 obtain ⟨c3, f3', z3⟩ := ((xA.below hb5)).out
                 obtain ⟨c4, f4', z4⟩ := ((xC.below hb5)).out
                 go_wp2_with fail
                 clear c1 f1' z1 c2 f2' z2 c3 f3' z3 c4 f4' z4
                 generalize w5.alloc (.cells #[.int .i64 x9, .int .i64 y9] 26) = w6 at *
                 obtain ⟨c1, f1', z1⟩ := xF5.out
                 obtain ⟨c2, f2', z2⟩ := xP5.out
                 obtain ⟨c3, f3', z3⟩ := xA5.out
                 obtain ⟨c4, f4', z4⟩ := xC5.out
                 refine (lessK2 HLT.out _ (by omega) (by omega) (by omega) (by omega)).mono ?_
                 rintro r9 w7 ⟨rfl, hb7⟩
                 have xF7 := xF5.below hb7
                 have xP7 := xP5.below hb7
                 have xA7 := xA5.below hb7
                 have xC7 := xC5.below hb7
                 have HO7 := Lib.hid (HO5.out.below hb7)
                 have B7 := bl_call B5 hb7
                 have hz7 := B7.size
                 have hs57 := hb5.size
                 clear c1 f1' z1 c2 f2' z2 c3 f3' z3 c4 f4' z4
                 obtain ⟨c1, f1', z1⟩ := xF7.out
                 obtain ⟨c2, f2', z2⟩ := xP7.out
                 obtain ⟨c3, f3', z3⟩ := xA7.out
                 obtain ⟨c4, f4', z4⟩ := xC7.out
                 go_wp2_with fail
                 refine (run_any (B := w.heap.size) xP7 HO7.out hz7 HNE.out.2.1 HOK.out hn hd hm.2 HRL.out.way HRL.out.be HRL.out.sum HRL.out.xy HRL.out.hA HRL.out.hl HRL.out.gd).mono ?_
                 rintro r9 w8 ⟨rfl, hu8, v8, L8, f8, xP8, ho8, hr8, hg8⟩
                 have xF8 := xF7.upv hu8 (by omega) HNE.out.1
                 have xA8 := xA7.upv hu8 (by omega) HNE.out.2.2.1
                 have xC8 := xC7.upv hu8 (by omega) HNE.out.2.2.2
                 have B8 := bl_upv B7 hu8 (by omega) (fun k hk => (HO7.out.lt k hk).1)
                 have HNE8 := Lib.hid (show v8.ownBlock ≠ some (w.heap.size) ∧ v8.ownBlock ≠ some (w.heap.size + 1 + 1) ∧ v8.ownBlock ≠ some (wr1.heap.size) ∧ v8.ownBlock ≠ some (wr1.heap.size + 1) from ⟨ne_rowK hr8 HNE.out.1 z1, ne_rowK hr8 HNE.out.2.1 z2, ne_rowK hr8 HNE.out.2.2.1 z3, ne_rowK hr8 HNE.out.2.2.2 z4⟩)
                 have HM8 := Lib.hid (HNX.out L8 f8 hg8)
                 have HO8 := Lib.hid ho8
                 obtain ⟨xl, hxl⟩ : ∃ x, c + l * a = x := ⟨_, rfl⟩
                 obtain ⟨yl, hyl⟩ : ∃ x, e + l * b = x := ⟨_, rfl⟩
                 rw [hxl, hyl] at HM8
                 rw [hxl, hyl]
                 rw [hyl] at pb
                 have hyb : e + 1 ≤ yl := by omega
                 have hkm1 := HKM.out
                 have hkm2 : (2 * m - b - yl).toNat < gk := by omega
                 have hkm3 : (((2 * m - b - yl).toNat : Nat) : Int) = 2 * m - b - yl := by omega
                 clear c1 f1' z1 c2 f2' z2 c3 f3' z3 c4 f4' z4 hxl hyl ho8 hr8 hg8
                 obtain ⟨cT, fT, zT⟩ := xC8.out
                 have uR := upd_set (upd_set (upd_refl w8 (wr1.heap.size + 1)) 0 (.int .i64 xl)) 1 (.int .i64 yl)
                 have hTF : w.heap.size ≠ wr1.heap.size + 1 := by omega
                 have hTP : w.heap.size + 1 + 1 ≠ wr1.heap.size + 1 := by omega
                 have hTO : wr1.heap.size ≠ wr1.heap.size + 1 := by omega
                 have xF9 := xF8.upd uR hTF
                 have xP9 := xP8.upd uR hTP
                 have xO9 := xA8.upd uR hTO
                 have xT9 := Bx.congM ((xC8.set 0 (.int .i64 xl)).set 1 (.int .i64 yl)) (show _ = #[.int .i64 xl, .int .i64 yl] by simp)
                 have HO9 := Lib.hid (HO8.out.upd uR HNE8.out.2.2.2)
                 have B9 := bl_upd B8 uR (by omega)
                 go_wp2
                 go_roundg (2 * m - b - yl).toNat
                 case rel => exact ⟨_, _, _, _, L8, f8, v8, hkm3, xF9, xP9, xO9, xT9, HO9.out, HNE8, B9, HM8⟩
                 case measure => exact hkm2

end Go.Proofs.Ytbonlompmnhmiaa
