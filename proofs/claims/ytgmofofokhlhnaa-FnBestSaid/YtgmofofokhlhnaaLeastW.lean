/- The least denominator: the walks of its parts. Each theorem names its conditions. -/
import Derived.Test.YtgmofofokhlhnaaNearest
import Derived.Test.YtgmofofokhlhnaaLeastM
namespace Go.Proofs.Ytgmofofokhlhnaa
open Go.RowKit
set_option linter.unusedVariables false
set_option linter.unusedSimpArgs false


theorem quo_bd {z d L : Int} (hd : 1 ≤ d) (h1 : -L ≤ z * d) (h2 : z * d ≤ L) (hL : 0 ≤ L) : -L ≤ z ∧ z ≤ L := by
  constructor
  · rcases Int.lt_or_le z 0 with h | h
    · have := le_mul_pos (b := -z) (x := d) (by omega) hd
      have e : -z * d = -(z * d) := by grind
      omega
    · omega
  · rcases Int.lt_or_le z 0 with h | h
    · omega
    · have := le_mul_pos (b := z) (x := d) h hd
      omega
theorem ret_iib {r : Int × Int × Bool} {a b : Int} {c : Bool} (h : r = (a, b, c)) : Ending.returned (.tuple #[.int .i64 a, .int .i64 b, .bool c]) = .returned (.tuple #[.int .i64 r.1, .int .i64 r.2.1, .bool r.2.2]) := by subst h; rfl

set_option maxHeartbeats 1600000 in
theorem inear_any (n d q : Int) (w : World) (hn : -1000000 ≤ n ∧ n ≤ 1000000) (hd : 1 ≤ d ∧ d ≤ 1000000) (hq : 1 ≤ q ∧ q ≤ 1000000) :
    Calls Try.prog 152 #[.agg #[.int .i64 n, .int .i64 d], .int .i64 q] w fun r w' => r = .returned (.tuple #[.int .i64 (nearF n d q).1, .int .i64 (nearF n d q).2.1, .bool (nearF n d q).2.2]) ∧ Bl w w' := by
  have b := rest_bd (k := n * q) (d := d) (by omega)
  have p1 := mul_bd hn.1 hn.2 (show 0 ≤ q by omega) hq.2
  have p2 : -2000000000000 ≤ n * q / d ∧ n * q / d ≤ 2000000000000 := quo_bd hd.1 (by omega) (by omega) (by omega)
  rcases Int.lt_trichotomy (2 * (n * q - n * q / d * d)) d with h | h | h
  ·
    have HR := Lib.hid (show nearF n d q = (n * q / d, (n * q - n * q / d * d), true) by rw [nearF, if_neg (by omega)]; simp; omega)
    have k3 : decide (2 * (n * q - n * q / d * d) < d) = true := by simp; omega
    have W1 : IntKind.i64.wrap (n * q / d + 1) = n * q / d + 1 := IntWalk.i64_in _ (by omega)
    have W2 : IntKind.i64.wrap (d - (n * q - n * q / d * d)) = d - (n * q - n * q / d * d) := IntWalk.i64_in _ (by omega)
    have W3 : IntKind.i64.wrap (2 * (n * q - n * q / d * d)) = 2 * (n * q - n * q / d * d) := IntWalk.i64_in _ (by omega)
    go_enter Try.func152, Try.ntmps152
    go_wp2_with fail
    refine (fdivB_any (n * q) d _ (by omega) (by omega) (by omega) (by omega)).mono ?_
    rintro e w1 ⟨rfl, hb1⟩
    have B1 : Bl w w1 := bl_call (bl_alloc (bl_refl _) _) hb1
    have xF_1 : Bx w1 (w.heap.size) #[.int .i64 (n), .int .i64 (d)] := (Bx.new (b := w.heap.size) _ #[.int .i64 (n), .int .i64 (d)] 55 (by first | rfl | simp)).below hb1
    obtain ⟨cF_1, fF_1, zF_1⟩ := xF_1.out
    go_wp2_with fail
    go_region
    all_goals go_wp2
    all_goals refine bodyPost_ret (v := .tuple #[.int .i64 (n * q / d), .int .i64 ((n * q - n * q / d * d)), .bool true]) (by simp only [results, Try.results152]; go_simp) rfl ?_
    all_goals refine ⟨ret_iib HR.out, ?_⟩
    all_goals repeat first | (with_reducible exact B1) | (with_reducible refine bl_drew ?_)
  ·
    have HR := Lib.hid (show nearF n d q = (n * q / d, (n * q - n * q / d * d), false) by rw [nearF, if_neg (by omega)]; simp; omega)
    have k1 := Int.le_of_eq h
    have k2 := Int.le_of_eq h.symm
    have k3 : decide (2 * (n * q - n * q / d * d) < d) = false := by simp; omega
    clear h
    have W1 : IntKind.i64.wrap (n * q / d + 1) = n * q / d + 1 := IntWalk.i64_in _ (by omega)
    have W2 : IntKind.i64.wrap (d - (n * q - n * q / d * d)) = d - (n * q - n * q / d * d) := IntWalk.i64_in _ (by omega)
    have W3 : IntKind.i64.wrap (2 * (n * q - n * q / d * d)) = 2 * (n * q - n * q / d * d) := IntWalk.i64_in _ (by omega)
    go_enter Try.func152, Try.ntmps152
    go_wp2_with fail
    refine (fdivB_any (n * q) d _ (by omega) (by omega) (by omega) (by omega)).mono ?_
    rintro e w1 ⟨rfl, hb1⟩
    have B1 : Bl w w1 := bl_call (bl_alloc (bl_refl _) _) hb1
    have xF_1 : Bx w1 (w.heap.size) #[.int .i64 (n), .int .i64 (d)] := (Bx.new (b := w.heap.size) _ #[.int .i64 (n), .int .i64 (d)] 55 (by first | rfl | simp)).below hb1
    obtain ⟨cF_1, fF_1, zF_1⟩ := xF_1.out
    go_wp2_with fail
    go_region
    all_goals go_wp2
    all_goals refine bodyPost_ret (v := .tuple #[.int .i64 (n * q / d), .int .i64 ((n * q - n * q / d * d)), .bool false]) (by simp only [results, Try.results152]; go_simp) rfl ?_
    all_goals refine ⟨ret_iib HR.out, ?_⟩
    all_goals repeat first | (with_reducible exact B1) | (with_reducible refine bl_drew ?_)
  ·
    have HR := Lib.hid (show nearF n d q = (n * q / d + 1, d - (n * q - n * q / d * d), true) by rw [nearF, if_pos (by omega)])
    have W1 : IntKind.i64.wrap (n * q / d + 1) = n * q / d + 1 := IntWalk.i64_in _ (by omega)
    have W2 : IntKind.i64.wrap (d - (n * q - n * q / d * d)) = d - (n * q - n * q / d * d) := IntWalk.i64_in _ (by omega)
    have W3 : IntKind.i64.wrap (2 * (n * q - n * q / d * d)) = 2 * (n * q - n * q / d * d) := IntWalk.i64_in _ (by omega)
    go_enter Try.func152, Try.ntmps152
    go_wp2_with fail
    refine (fdivB_any (n * q) d _ (by omega) (by omega) (by omega) (by omega)).mono ?_
    rintro e w1 ⟨rfl, hb1⟩
    have B1 : Bl w w1 := bl_call (bl_alloc (bl_refl _) _) hb1
    have xF_1 : Bx w1 (w.heap.size) #[.int .i64 (n), .int .i64 (d)] := (Bx.new (b := w.heap.size) _ #[.int .i64 (n), .int .i64 (d)] 55 (by first | rfl | simp)).below hb1
    obtain ⟨cF_1, fF_1, zF_1⟩ := xF_1.out
    go_wp2_with fail
    go_region
    all_goals go_wp2
    all_goals refine bodyPost_ret (v := .tuple #[.int .i64 (n * q / d + 1), .int .i64 (d - (n * q - n * q / d * d)), .bool true]) (by simp only [results, Try.results152]; go_simp) rfl ?_
    all_goals refine ⟨ret_iib HR.out, ?_⟩
    all_goals repeat first | (with_reducible exact B1) | (with_reducible refine bl_drew ?_)

theorem inear_eq {n d q a b : Int} {c : Bool} (h : nearF n d q = (a, b, c)) (w : World) (hn : -1000000 ≤ n ∧ n ≤ 1000000) (hd : 1 ≤ d ∧ d ≤ 1000000) (hq : 1 ≤ q ∧ q ≤ 1000000) :
    Calls Try.prog 152 #[.agg #[.int .i64 n, .int .i64 d], .int .i64 q] w fun r w' => r = .returned (.tuple #[.int .i64 a, .int .i64 b, .bool c]) ∧ Bl w w' := by
  have := inear_any n d q w hn hd hq
  rw [h] at this
  exact this

end Go.Proofs.Ytgmofofokhlhnaa
