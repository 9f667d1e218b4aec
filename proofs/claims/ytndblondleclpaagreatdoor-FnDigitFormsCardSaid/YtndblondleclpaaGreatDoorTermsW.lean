/- The terms of a fraction: the program's and the reference's walk. Each theorem names its conditions. -/
import Derived.Test.YtndblondleclpaaGreatDoorTermsF
import Derived.Test.YtndblondleclpaaGreatDoorApp
namespace Go.Proofs.YtndblondleclpaaGreatDoor
open Go.RowKit
set_option linter.unusedVariables false
set_option linter.unusedSimpArgs false

theorem app_cons {xs : List Int} {x : Int} {ys T : List Int} (h : xs ++ x :: ys = T) : (xs ++ [x]) ++ ys = T := by rw [← h]; simp

set_option maxRecDepth 100000 in
set_option maxHeartbeats 1600000 in
theorem lterms_any (n d : Int) (w : World) (h0 : 0 ≤ d) (h2 : d ≤ 1000000000) (h3 : -1000000000 ≤ n ∧ n ≤ 1000000000) :
    Calls Tryz.prog 153 #[.agg #[.int .i64 n, .int .i64 d]] w fun e w' => ∃ a c, e = .returned (.slice a (termsF n d).length c) ∧ Own w' w.heap.size (.slice a (termsF n d).length c) (termsF n d) ∧ Bl w w' := by
  obtain ⟨T, hT⟩ : ∃ T, T = termsF n d := ⟨_, rfl⟩
  have hl := Lib.hid (show T.length ≤ 60 by rw [hT]; exact termsF_60 h0 h2)
  have hr := Lib.hid (show ∀ x ∈ T, -1000000000 ≤ x ∧ x ≤ 1000000000 by rw [hT]; exact termsF_R64 h0 h2 h3)
  rw [← hT]
  have HT := Lib.hid hT
  clear hT
  go_enter Tryz.func153, Tryz.ntmps153
  go_wp2
  go_loopw [3, 4, 5, 6, 7] (fun s3 s4 s5 s6 s7 wr => ∃ (n' d' : Int) (xs : List Int) (a : Option Addr) (c : Nat), s4 = .int .i64 n' ∧ s5 = .int .i64 d' ∧ s3 = .slice a xs.length c ∧ Own wr w.heap.size (.slice a xs.length c) xs ∧ Hid (xs ++ termsF n' d' = T) ∧ 0 ≤ d' ∧ d' ≤ 1000000000 ∧ -1000000000 ≤ n' ∧ n' ≤ 1000000000 ∧ Bl w wr) (fun _ _ s5 _ _ _ => (intOf s5).toNat)
  case atStart => exact ⟨n, d, [], some ⟨w.heap.size + 1, 0, none⟩, 0, rfl, rfl, rfl, (by have h := own_made (B := w.heap.size) (w.alloc (.cells #[.int .i64 n, .int .i64 d] 45)) (by simp); rw [World.size_alloc] at h; exact h), Lib.hid (by rw [HT.out]; rfl), h0, h2, h3.1, h3.2, bl_alloc (bl_alloc (bl_refl _) _) _⟩
  case round =>
    obtain ⟨n', d', xs, a, c, rfl, rfl, rfl, ho, hx, k0, k1, k2, k3, Br⟩ := hrel
    have HO := Lib.hid ho
    clear ho
    rcases (show d' = 0 ∨ 0 < d' by omega) with e | hp
    · subst e
      have HX := Lib.hid (show xs = T by have := hx.out; rwa [termsF_zero, List.append_nil] at this)
      go_wp2
      go_ret
      have e := HX.out
      subst e
      exact ⟨a, c, rfl, HO.out, Br⟩
    · have hz : (d' != 0) = true := by simp; omega
      have hq := quo_le hp ⟨k2, k3⟩ (by omega)
      have HX := Lib.hid (show (xs ++ [n' / d']) ++ termsF d' (n' - n' / d' * d') = T by have := hx.out; rw [termsF_step hp] at this; exact app_cons this)
      have hrl := rest_lt (n := n') hp
      have hm : n' - 1000000000 ≤ n' / d' * d' ∧ n' / d' * d' ≤ n' := by omega
      have hlen : xs.length ≤ 60 := by have := hl.out; have h5 := congrArg List.length hx.out; rw [List.length_append] at h5; omega
      go_wp2_with (first | (go_at_call 181; refine (floor_any _ _ _ (by omega) (by omega) (by omega) (by omega)).mono ?_; rintro e w' ⟨rfl, rfl⟩) | (at_builtin; refine wpList_append_one rfl _ _ rfl w.heap.size _ xs (by rfl) HO.out _ (by unfold R64; omega) (by rfl) (by omega) Br.size ?_; intro v' w1 ho hg _; obtain ⟨a1, c1, rfl, _⟩ := ho.form))
      have B1 := bl_grown Br hg (fun k hk => (HO.out.lt k hk).1)
      clear hg
      have HO1 := Lib.hid ho
      clear ho
      go_wp2
      go_roundw
      case rel => exact ⟨d', _, xs ++ [n' / d'], a1, c1, rfl, rfl, by simp, HO1.out, HX, by omega, by omega, by omega, by omega, B1⟩
      case measure => simp [intOf]; omega

end Go.Proofs.YtndblondleclpaaGreatDoor
