/- FnBest: small facts. Each theorem names its conditions. -/
import Derived.Test.YtgmofofokhlhnaaOpenB
import Derived.Test.YtgmofofokhlhnaaDraw
import Derived.Test.YtgmofofokhlhnaaFbW
import Derived.Test.YtgmofofokhlhnaaBsF
import Derived.Test.YtgmofofokhlhnaaSecS
namespace Go.Proofs.Ytgmofofokhlhnaa
open Go.RowKit
set_option linter.unusedVariables false
set_option linter.unusedSimpArgs false


theorem bests_small {sec : Bool} {n d m : Int} (o1 : okF n d = true) (hn : -2000 ≤ n ∧ n ≤ 2000) (hd : d ≤ 2000) (hm : 1 ≤ m ∧ m ≤ 200) : bestsF sec n d m = (tgt sec n d (min m d).toNat, 0) := by
  rw [bestsF_yes (most_zero o1 hn hd (by omega))]
  exact bestsT_ok rfl (by have := tgt_len sec n d (min m d).toNat; omega)
theorem isFirS_eq {n d x y : Int} {b : Bool} (h : isFirF n d x y = (b, 0)) (w : World) : Calls Try.prog 51 #[.agg #[.int .i64 n, .int .i64 d], .agg #[.int .i64 x, .int .i64 y]] w fun r w' => r = .returned (.tuple #[.bool b, .int .i64 0]) ∧ Bl w w' :=
  (spec_IsBestFirst n d x y w).mono fun e w' q => by rw [h] at q; exact q
theorem isSecS_eq {n d x y : Int} {b : Bool} (h : isSecF n d x y = (b, 0)) (w : World) : Calls Try.prog 53 #[.agg #[.int .i64 n, .int .i64 d], .agg #[.int .i64 x, .int .i64 y]] w fun r w' => r = .returned (.tuple #[.bool b, .int .i64 0]) ∧ Bl w w' :=
  (spec_IsBestSecond n d x y w).mono fun e w' q => by rw [h] at q; exact q
theorem cmpES_eq {n d a b p q c : Int} (h : compErrF n d a b p q = (c, 0)) (w : World) : Calls Try.prog 52 #[.agg #[.int .i64 n, .int .i64 d], .agg #[.int .i64 a, .int .i64 b], .agg #[.int .i64 p, .int .i64 q]] w fun r w' => r = .returned (.tuple #[.int .i64 c, .int .i64 0]) ∧ Bl w w' :=
  (spec_CompareErrors n d a b p q w).mono fun e w' z => by rw [h] at z; exact z
theorem nearS_eq {n d m x y : Int} (h : nearFrF n d m = ((x, y), 0)) (w : World) : Calls Try.prog 54 #[.agg #[.int .i64 n, .int .i64 d], .int .i64 m] w fun r w' => r = .returned (.tuple #[.agg #[.int .i64 x, .int .i64 y], .int .i64 0]) ∧ Bl w w' :=
  (spec_NearestFraction n d m w).mono fun e w' z => by rw [h] at z; exact z
/-- What the first list holds at a place. -/
structure FstAt (n d m : Int) (fs : List (Int × Int)) (k : Nat) (x y : Int) : Prop where
  c : isFirF n d x y = (true, 0)
  y0 : 1 ≤ y
  ym : y ≤ m
theorem fst_at {n d m : Int} {fs : List (Int × Int)} {k : Nat} {x y : Int} (hfs : fs = tgt false n d (min m d).toNat) (o1 : okF n d = true) (hn : -2000 ≤ n ∧ n ≤ 2000) (hd : d ≤ 2000) (hm : 1 ≤ m) (h : fs[k]? = some (x, y)) : FstAt n d m fs k x y := by
  have hok := okF_bd o1
  have hmem : (x, y) ∈ tgt false n d (min m d).toNat := by rw [← hfs]; exact List.mem_of_getElem? h
  have t := tgt_mem hmem
  have b := bst_of o1 hn hd t.1 t.2.2
  refine ⟨?_, t.1, by have := t.2.1; omega⟩
  have hf : firstF n d x y = true := t.2.2
  rw [isFirF, if_pos (best2_zero o1 b.ok hn hd ⟨b.x1, b.x2⟩ (by have := b.yd; omega)), hf]
theorem fst_two {n d m : Int} {fs : List (Int × Int)} {k j : Nat} {x y u v : Int} (hfs : fs = tgt false n d (min m d).toNat) (o1 : okF n d = true) (hn : -2000 ≤ n ∧ n ≤ 2000) (hd : d ≤ 2000) (hm : 1 ≤ m) (h : fs[k]? = some (x, y)) (hj : fs[j]? = some (u, v)) (hjk : j < k) : v < y ∧ compErrF n d x y u v = (-1, 0) := by
  have hok := okF_bd o1
  have hmem : (x, y) ∈ tgt false n d (min m d).toNat := by rw [← hfs]; exact List.mem_of_getElem? h
  have hmem2 : (u, v) ∈ tgt false n d (min m d).toNat := by rw [← hfs]; exact List.mem_of_getElem? hj
  have t := tgt_mem hmem
  have t2 := tgt_mem hmem2
  have b := bst_of o1 hn hd t.1 t.2.2
  have b2 := bst_of o1 hn hd t2.1 t2.2.2
  have hpw := tgt_pair false n d (min m d).toNat
  rw [← hfs] at hpw
  obtain ⟨hk1, hk2⟩ := List.getElem?_eq_some_iff.1 h
  obtain ⟨hj1, hj2⟩ := List.getElem?_eq_some_iff.1 hj
  have hvy := List.pairwise_iff_getElem.1 hpw j k hj1 hk1 hjk
  rw [hk2, hj2] at hvy
  have hvy : v < y := hvy
  refine ⟨hvy, ?_⟩
  rw [compErrF, if_pos (best3_zero o1 b.ok b2.ok hn hd ⟨b.x1, b.x2⟩ (by have := b.yd; omega) ⟨b2.x1, b2.x2⟩ (by have := b2.yd; omega)), best_cmp (by omega) hok.2.2.2.2 t2.1 hvy t.2.2 t2.2.2 b.yd]
/-- What the second list holds at a place. -/
structure SndAt (n d : Int) (fs cs : List (Int × Int)) (x y : Int) : Prop where
  c : isSecF n d x y = (true, 0)
  f : (x, y) ∈ fs
  g : (x, y) ∈ cs
theorem snd_at {n d m : Int} {fs ss cs : List (Int × Int)} {k : Nat} {x y : Int} (hfs : fs = tgt false n d (min m d).toNat) (hss : ss = tgt true n d (min m d).toNat) (hcs : ∀ x y, secondF n d x y = true → 1 ≤ y → y ≤ d → (x, y) ∈ cs) (o1 : okF n d = true) (hn : -2000 ≤ n ∧ n ≤ 2000) (hd : d ≤ 2000) (hm : 1 ≤ m) (h : ss[k]? = some (x, y)) : SndAt n d fs cs x y := by
  have hok := okF_bd o1
  have hmem : (x, y) ∈ tgt true n d (min m d).toNat := by rw [← hss]; exact List.mem_of_getElem? h
  have t := tgt_mem hmem
  have b := bst_of o1 hn hd t.1 t.2.2
  have hs : secondF n d x y = true := t.2.2
  refine ⟨?_, ?_, hcs x y hs t.1 b.yd⟩
  · rw [isSecF, if_pos (best2_zero o1 b.ok hn hd ⟨b.x1, b.x2⟩ (by have := b.yd; omega)), hs]
  · rw [hfs]; exact mem_tgt (by omega) hok.2.2.2.2 t.1 t.2.1 (sec_first o1 t.1 hs)
/-- What the nearest one is. -/
theorem mem_step_t {x : Int × Int} {l : List (Int × Int)} {k : Nat} (h : true = decide (x ∈ l.take k)) : true = decide (x ∈ l.take (k + 1)) := by
  have h1 := of_decide_eq_true h.symm
  exact (decide_eq_true (by rw [List.take_add_one]; exact List.mem_append.2 (.inl h1))).symm
theorem mem_step_y {x : Int × Int} {l : List (Int × Int)} {k : Nat} (h : l[k]? = some x) : true = decide (x ∈ l.take (k + 1)) :=
  (decide_eq_true (by rw [List.take_add_one, h]; simp)).symm
theorem mem_step_n {x y : Int × Int} {l : List (Int × Int)} {k : Nat} (h : false = decide (x ∈ l.take k)) (hy : l[k]? = some y) (hne : ¬ y = x) : false = decide (x ∈ l.take (k + 1)) := by
  have h1 := of_decide_eq_false h.symm
  refine (decide_eq_false ?_).symm
  rw [List.take_add_one, hy]
  intro h2
  rcases List.mem_append.1 h2 with h2 | h2
  · exact h1 h2
  · simp at h2; exact hne h2.symm
structure LstAt (n d m : Int) (fs : List (Int × Int)) (x y : Int) (b : Bool) : Prop where
  r : nearFrF n d m = ((x, y), 0)
  c : isFirF n d x y = (b, 0)
  l : b = true → fs[fs.length - 1]? = some (x, y) ∧ 0 < fs.length
theorem lst_at {n d m : Int} {fs : List (Int × Int)} (hfs : fs = tgt false n d (min m d).toNat) (o1 : okF n d = true) (hn : -2000 ≤ n ∧ n ≤ 2000) (hd : d ≤ 2000) (hm : 1 ≤ m ∧ m ≤ 200) : ∃ x y b, LstAt n d m fs x y b := by
  have hok := okF_bd o1
  obtain ⟨x, y, hxy⟩ : ∃ x y, nearestF n d m = (x, y) := ⟨_, _, rfl⟩
  have hz := most_zero o1 hn hd (show 1 ≤ m ∧ m ≤ 1000000 by omega)
  have hbd : okF x y = true ∧ (-2001 ≤ x ∧ x ≤ 2001) ∧ y ≤ 2000 := by
    by_cases c : d ≤ m
    · have := nearestF_eq (n := n) (d := d) (m := m) (sidesF_own c)
      rw [this] at hxy
      have : (n, d) = (x, y) := by split at hxy <;> exact hxy
      simp only [Prod.mk.injEq] at this
      obtain ⟨rfl, rfl⟩ := this
      exact ⟨o1, by omega, hd⟩
    · obtain ⟨a, b, p, q, hs, x1, hxs, e1, e2⟩ := second_sides hok.2.2.2.2 hm.1 (show m < d by omega)
      have sg := sides_gcd o1 hm.1
      rw [hs] at sg
      have ss := sp_small x1 (by omega) hn
      have k1 := x1.hb; have k2 := x1.hd; have k3 := x1.bm; have k4 := x1.dm
      rw [nearestF_eq hs] at hxy
      split at hxy
      · simp only [Prod.mk.injEq] at hxy
        obtain ⟨rfl, rfl⟩ := hxy
        exact ⟨ok_make sg.2 (by omega) (by omega), ss.2, by omega⟩
      · simp only [Prod.mk.injEq] at hxy
        obtain ⟨rfl, rfl⟩ := hxy
        exact ⟨ok_make sg.1 (by omega) (by omega), ss.1, by omega⟩
  refine ⟨x, y, firstF n d x y, by rw [nearFrF, if_pos hz, hxy], by rw [isFirF, if_pos (best2_zero o1 hbd.1 hn hd hbd.2.1 hbd.2.2)], fun hf => ?_⟩
  rw [hfs]
  exact near_last o1 hm.1 hxy hf

end Go.Proofs.Ytgmofofokhlhnaa
