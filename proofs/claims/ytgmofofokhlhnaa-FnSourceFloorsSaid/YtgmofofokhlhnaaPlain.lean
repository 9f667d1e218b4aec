/- The reference's short form of a source. Each theorem names its conditions. -/
import Derived.Test.YtgmofofokhlhnaaAt
namespace Go.Proofs.Ytgmofofokhlhnaa
open Go.RowKit
set_option linter.unusedVariables false
set_option linter.unusedSimpArgs false

theorem OkPer.plain {s : Src} (x : OkPer s) : OkPer (plainS s) := by
  unfold plainS
  split
  · exact okPer_fin (by have := shortL_len s.H; have := x.h30; omega)
  · exact x

theorem Sl.far {w : World} {v : Value} {xs : List Int} (h : Sl w v xs) {p : Addr} (hp : ∀ k, v.ownBlock = some k → k ≠ p.block) (u : Value) : Sl (w.setCell p u) v xs := by
  refine h.grown (row := some p.block) ⟨rfl, rfl, rfl, by simp, fun k hk hne => Below.heap_setCell w p u k (fun e => hne (by rw [e]))⟩ (.inr fun e => hp _ e rfl)

theorem Own.far {w : World} {B : Nat} {v : Value} {xs : List Int} (h : Own w B v xs) {p : Addr} (hp : ∀ k, v.ownBlock = some k → k ≠ p.block) (u : Value) : Own (w.setCell p u) B v xs := by
  refine h.grown (row := some p.block) ⟨rfl, rfl, rfl, by simp, fun k hk hne => Below.heap_setCell w p u k (fun e => hne (by rw [e]))⟩ (.inr fun e => hp _ e rfl)
theorem Sl.empty {w w' : World} {v : Value} (h : Sl w v []) : Sl w' v [] := by
  obtain ⟨a, cap, rfl, h1, h2, h3, h4, h5⟩ := h
  exact ⟨a, cap, rfl, h1, h2, h3, h4, .inl rfl⟩

set_option maxRecDepth 100000 in
set_option maxHeartbeats 6400000 in
theorem plainSrc_any (h p g : Value) (s : Src) (w : World) (b : Nat) (hs : SlS w h p g s) (hx : Bx w b #[h, p, g]) (ok : OkPer s) (hbd : ∀ y ∈ s.H, y ≤ 2000000000) :
    Calls Try.prog 90 #[.pointer (some ⟨b, 0, none⟩)] w fun e w' => ∃ a1 n1 c1 a2 n2 c2 a3 n3 c3, e = .returned (.agg #[.slice a1 n1 c1, .slice a2 n2 c2, .slice a3 n3 c3]) ∧ SlS w' (.slice a1 n1 c1) (.slice a2 n2 c2) (.slice a3 n3 c3) (plainS s) ∧ Bl w w' := by
  have l1 := ok.h30
  have l2 := ok.p30
  have l3 : s.G.length ≤ 30 := by rw [ok.gp]; exact ok.p30
  go_enter Try.func90, Try.ntmps90
  go_wp2_with fail
  have BW := bl_alloc (bl_refl w) (.cells #[.slice none 0 0, .slice none 0 0, .slice none 0 0] 26)
  have hr0 := Bx.new (b := w.heap.size) w #[.slice none 0 0, .slice none 0 0, .slice none 0 0] 26 rfl
  have hx := hx.alloc (.cells #[.slice none 0 0, .slice none 0 0, .slice none 0 0] 26)
  have hs := hs.alloc (.cells #[.slice none 0 0, .slice none 0 0, .slice none 0 0] 26)
  generalize w.alloc (.cells #[.slice none 0 0, .slice none 0 0, .slice none 0 0] 26) = w0 at *
  obtain ⟨cx, fx, zx⟩ := hx.out
  go_cut [3] (fun s3 wx => ∃ q a1 c1 a2 c2 a3 c3, s3 = .pointer (some ⟨q, 0, none⟩) ∧ Bx wx q #[.slice a1 s.H.length c1, .slice a2 s.P.length c2, .slice a3 s.G.length c3] ∧ Own wx w0.heap.size (.slice a1 s.H.length c1) s.H ∧ Own wx w0.heap.size (.slice a2 s.P.length c2) s.P ∧ Own wx w0.heap.size (.slice a3 s.G.length c3) s.G ∧ w0.heap.size ≤ q ∧ Bl w0 wx)
  case first =>
    have BB := bl_refl w0
    have BB := bl_drew BB
    go_region_held3 (fun w' => w'.cell? ⟨b, 0, none⟩ = some h ∧ w'.cell? ⟨b, 1, none⟩ = some p ∧ w'.cell? ⟨b, 2, none⟩ = some g) (first | (simp [*]; done) | (go_simp; done) | go_keep)
      (first | (go_at_call_of 87 h; go_must (refine (own_any h s.H _ (by first | exact hs.1.below BB | exact hs.1.below (bl_alloc BB _)) (by omega)).mono ?_; rintro e w1 ⟨a1, c1, rfl, o1, hb1⟩; have r1 := Lib.hid o1.lt; have z1 := hb1.size; have BB : Bl w0 w1 := bl_call (by first | exact BB | exact bl_alloc BB _) hb1; obtain ⟨cx, fx, zx⟩ := (hx.below BB).out; (first | (have o2 := o2.below hb1) | (have o2 := (o2.alloc _).below hb1) | skip); (first | (have o3 := o3.below hb1) | (have o3 := (o3.alloc _).below hb1) | skip); (first | (have nb := nb.below hb1; obtain ⟨cn, fn, zn⟩ := nb.out) | (have nb := (Bx.new _ #[.slice none 0 0, .slice none 0 0, .slice none 0 0] 26 rfl).below hb1; obtain ⟨cn, fn, zn⟩ := nb.out) | (have nb := (Bx.new w0 #[.slice none 0 0, .slice none 0 0, .slice none 0 0] 26 rfl).drew.below hb1; obtain ⟨cn, fn, zn⟩ := nb.out) | skip))) | (go_at_call_of 87 p; go_must (refine (own_any p s.P _ (by first | exact hs.2.1.below BB | exact hs.2.1.below (bl_alloc BB _)) (by omega)).mono ?_; rintro e w2 ⟨a2, c2, rfl, o2, hb2⟩; have r2 := Lib.hid o2.lt; have z2 := hb2.size; have BB : Bl w0 w2 := bl_call (by first | exact BB | exact bl_alloc BB _) hb2; obtain ⟨cx, fx, zx⟩ := (hx.below BB).out; (first | (have o1 := o1.below hb2) | (have o1 := (o1.alloc _).below hb2) | skip); (first | (have o3 := o3.below hb2) | (have o3 := (o3.alloc _).below hb2) | skip); (first | (have nb := nb.below hb2; obtain ⟨cn, fn, zn⟩ := nb.out) | (have nb := (Bx.new _ #[.slice none 0 0, .slice none 0 0, .slice none 0 0] 26 rfl).below hb2; obtain ⟨cn, fn, zn⟩ := nb.out) | (have nb := (Bx.new w0 #[.slice none 0 0, .slice none 0 0, .slice none 0 0] 26 rfl).drew.below hb2; obtain ⟨cn, fn, zn⟩ := nb.out) | skip))) | (go_at_call_of 87 g; go_must (refine (own_any g s.G _ (by first | exact hs.2.2.below BB | exact hs.2.2.below (bl_alloc BB _)) (by omega)).mono ?_; rintro e w3 ⟨a3, c3, rfl, o3, hb3⟩; have r3 := Lib.hid o3.lt; have z3 := hb3.size; have BB : Bl w0 w3 := bl_call (by first | exact BB | exact bl_alloc BB _) hb3; obtain ⟨cx, fx, zx⟩ := (hx.below BB).out; (first | (have o1 := o1.below hb3) | (have o1 := (o1.alloc _).below hb3) | skip); (first | (have o2 := o2.below hb3) | (have o2 := (o2.alloc _).below hb3) | skip); (first | (have nb := nb.below hb3; obtain ⟨cn, fn, zn⟩ := nb.out) | (have nb := (Bx.new _ #[.slice none 0 0, .slice none 0 0, .slice none 0 0] 26 rfl).below hb3; obtain ⟨cn, fn, zn⟩ := nb.out) | (have nb := (Bx.new w0 #[.slice none 0 0, .slice none 0 0, .slice none 0 0] 26 rfl).drew.below hb3; obtain ⟨cn, fn, zn⟩ := nb.out) | skip))))
    all_goals (go_wp2_with fail; go_meet)
    all_goals (first
      | (refine ⟨_, a1, c1, a2, c2, a3, c3, rfl, ((nb.set 0 _).set 1 _).set 2 _, ?_, ?_, ?_, ?_, ?_⟩
         · exact (((o1.far (fun k hk => by have q := r1.out k hk; (try simp at q z1 z2 z3); simp; omega) _).far (fun k hk => by have q := r1.out k hk; (try simp at q z1 z2 z3); simp; omega) _).far (fun k hk => by have q := r1.out k hk; (try simp at q z1 z2 z3); simp; omega) _).mono (by first | exact Nat.le_refl _ | ((try simp at z1 z2 z3); have h5 := hb1.size; (try simp at h5); first | omega | (simp; done) | (simp; omega)))
         · exact (((o2.far (fun k hk => by have q := r2.out k hk; (try simp at q z1 z2 z3); simp; omega) _).far (fun k hk => by have q := r2.out k hk; (try simp at q z1 z2 z3); simp; omega) _).far (fun k hk => by have q := r2.out k hk; (try simp at q z1 z2 z3); simp; omega) _).mono (by ((try simp at z1 z2 z3); have h5 := hb1.size; (try simp at h5); first | omega | (simp; done) | (simp; omega)))
         · exact (((o3.far (fun k hk => by have q := r3.out k hk; (try simp at q z1 z2 z3); simp; omega) _).far (fun k hk => by have q := r3.out k hk; (try simp at q z1 z2 z3); simp; omega) _).far (fun k hk => by have q := r3.out k hk; (try simp at q z1 z2 z3); simp; omega) _).mono (by ((try simp at z1 z2 z3); have h5 := hb1.size; (try simp at h5); first | omega | (simp; done) | (simp; omega)))
         · ((try simp at z1 z2 z3); have h5 := hb1.size; (try simp at h5); first | omega | (simp; done) | (simp; omega))
         · exact bl_set (bl_set (bl_set BB (by ((try simp at z1 z2 z3); have h5 := hb1.size; (try simp at h5); first | omega | (simp; done) | (simp; omega))) _) (by ((try simp at z1 z2 z3); have h5 := hb1.size; (try simp at h5); first | omega | (simp; done) | (simp; omega))) _) (by ((try simp at z1 z2 z3); have h5 := hb1.size; (try simp at h5); first | omega | (simp; done) | (simp; omega))) _)
      | exact ⟨_, a1, c1, a2, c2, a3, c3, rfl, Bx.new _ _ _ rfl, (o1.alloc _).mono (by first | exact Nat.le_refl _ | ((try simp at z1 z2 z3); have h5 := hb1.size; (try simp at h5); first | omega | (simp; done) | (simp; omega))), (o2.alloc _).mono (by ((try simp at z1 z2 z3); have h5 := hb1.size; (try simp at h5); first | omega | (simp; done) | (simp; omega))), (o3.alloc _).mono (by ((try simp at z1 z2 z3); have h5 := hb1.size; (try simp at h5); first | omega | (simp; done) | (simp; omega))), BB.size, bl_alloc BB _⟩)
  case rest =>
    obtain ⟨q, a1, c1, a2, c2, a3, c3, rfl, xq, o1, o2, o3, hq, hj⟩ := hcut
    obtain ⟨w4, rfl⟩ : ∃ x : World, x = wc := ⟨_, rfl⟩
    have B4 : Bl w w4 := bl_call BW hj
    have zr0 := hr0.out.2.2
    have hr := hr0.below hj
    clear cx fx zx
    obtain ⟨cq, fq, zq⟩ := xq.out
    obtain ⟨cr, fr, zr⟩ := hr.out
    have hne : w.heap.size ≠ q := by omega
    have HO1 := Lib.hid o1
    have HO2 := Lib.hid o2
    have HO3 := Lib.hid o3
    clear o1 o2 o3
    by_cases c : s.P.length = 0
    · have HP := Lib.hid (show plainS s = ⟨shortL s.H, [], []⟩ by rw [plainS, if_pos c])
      have HN := Lib.hid (show s.P = [] ∧ s.G = [] from ⟨List.eq_nil_of_length_eq_zero c, List.eq_nil_of_length_eq_zero (by rw [ok.gp]; exact c)⟩)
      have cb : ((s.P.length : Int) == 0) = true := beq_iff_eq.2 (by omega)
      clear c
      go_wp2_with fail
      refine (shortS_any _ s.H _ HO1.out.sl (by omega) hbd).mono ?_
      rintro e w5 ⟨a, c', rfl, ho, hb5⟩
      have B5 : Bl w w5 := bl_call B4 hb5
      have HO := Lib.hid ho
      have xq5 := xq.below hb5
      have hr5 := hr.below hb5
      clear cq fq cr fr ho
      obtain ⟨cq, fq, zq5⟩ := xq5.out
      obtain ⟨cr, fr, zr5⟩ := hr5.out
      go_wp2
      refine bodyPost_ret (v := .agg #[.slice a (shortL s.H).length c', .slice a2 s.P.length c2, .slice a3 s.G.length c3]) (by simp only [results, Try.results90]; go_simp) rfl ?_
      rw [HP.out]
      refine ⟨a, _, c', a2, _, c2, a3, _, c3, rfl, ⟨?_, ?_, ?_⟩, ?_⟩
      · refine Own.sl (B := w4.heap.size) ?_
        repeat first | (with_reducible exact HO.out) | (with_reducible refine Own.setCell ?_ (by first | exact zq | exact zr | (simp; omega)) _)
      · have h2 := HO2.out.sl
        rw [HN.out.1] at h2
        rw [HN.out.1]
        exact h2.empty
      · have h2 := HO3.out.sl
        rw [HN.out.2] at h2
        rw [HN.out.2]
        exact h2.empty
      · repeat first | (with_reducible exact B5) | (with_reducible refine bl_set ?_ (by first | exact Nat.le_refl _ | (simp; omega) | (have := BW.size; simp; omega)) _)
    · have HP := Lib.hid (show plainS s = s by rw [plainS, if_neg c])
      have cb : ((s.P.length : Int) == 0) = false := beq_eq_false_iff_ne.2 (by omega)
      clear c
      go_wp2
      refine bodyPost_ret (v := .agg #[.slice a1 s.H.length c1, .slice a2 s.P.length c2, .slice a3 s.G.length c3]) (by simp only [results, Try.results90]; go_simp) rfl ?_
      rw [HP.out]
      refine ⟨a1, _, c1, a2, _, c2, a3, _, c3, rfl, ⟨?_, ?_, ?_⟩, ?_⟩
      · refine Own.sl (B := w0.heap.size) ?_
        repeat first | (with_reducible exact HO1.out) | (with_reducible refine Own.setCell ?_ (by first | exact zr0 | (simp; omega)) _)
      · refine Own.sl (B := w0.heap.size) ?_
        repeat first | (with_reducible exact HO2.out) | (with_reducible refine Own.setCell ?_ (by first | exact zr0 | (simp; omega)) _)
      · refine Own.sl (B := w0.heap.size) ?_
        repeat first | (with_reducible exact HO3.out) | (with_reducible refine Own.setCell ?_ (by first | exact zr0 | (simp; omega)) _)
      · repeat first | (with_reducible exact B4) | (with_reducible refine bl_set ?_ (by first | exact Nat.le_refl _ | (simp; omega) | (have := BW.size; simp; omega)) _)

end Go.Proofs.Ytgmofofokhlhnaa
