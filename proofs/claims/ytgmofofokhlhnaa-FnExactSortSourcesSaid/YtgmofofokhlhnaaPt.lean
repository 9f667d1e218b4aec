/- Sources behind pointers into a row: the reference's check, short form, comparison. Each theorem names its conditions. -/
import Derived.Test.YtgmofofokhlhnaaL17
namespace Go.Proofs.Ytgmofofokhlhnaa
open Go.RowKit
set_option linter.unusedVariables false
set_option linter.unusedSimpArgs false

/-- Three cells that follow each other: a source in a row. -/
def P3 (w : World) (b o : Nat) (h p g : Value) : Prop := w.cell? ⟨b, o, none⟩ = some h ∧ w.cell? ⟨b, o + 1, none⟩ = some p ∧ w.cell? ⟨b, o + 2, none⟩ = some g
theorem P3.out {w : World} {b o : Nat} {h p g : Value} (x : P3 w b o h p g) : (w.cell? ⟨b, o, none⟩ = some h ∧ w.cell? ⟨b, o + 1, none⟩ = some p ∧ w.cell? ⟨b, o + 2, none⟩ = some g) ∧ True ∧ b < w.heap.size := ⟨x, trivial, cell_lt x.1⟩
theorem P3.below {w w' : World} {b o : Nat} {h p g : Value} (x : P3 w b o h p g) (hb : Bl w w') : P3 w' b o h p g := by
  have hl := cell_lt x.1
  exact ⟨by rw [(bcell hb).1 _ _ hl]; exact x.1, by rw [(bcell hb).1 _ _ hl]; exact x.2.1, by rw [(bcell hb).1 _ _ hl]; exact x.2.2⟩
theorem P3.alloc {w : World} {b o : Nat} {h p g : Value} (x : P3 w b o h p g) (t : Obj) : P3 (w.alloc t) b o h p g := x.below (bl_alloc (bl_refl _) t)
theorem P3.drew {w : World} {b o : Nat} {h p g : Value} (x : P3 w b o h p g) : P3 w.drew b o h p g := x
set_option maxRecDepth 100000 in
set_option maxHeartbeats 1600000 in
theorem svalid_noP (h p g : Value) (s : Src) (w : World) (b o : Nat) (ha : SlS w h p g s) (hx : P3 w b o h p g) (c : ¬ Shape s) :
    Calls Try.prog 89 #[.pointer (some ⟨b, o, none⟩)] w fun e w' => e = .returned (.bool (okSrc s)) ∧ Bl w w' := by
  have l1 := ha.1.len
  have l2 := ha.2.1.len
  have l3 := ha.2.2.len
  obtain ⟨a1, a2, a3⟩ := ha
  obtain ⟨ah, ch, rfl, hch⟩ := a1.form
  obtain ⟨ap, cp, rfl, hcp⟩ := a2.form
  obtain ⟨ag, cg, rfl, hcg⟩ := a3.form
  obtain ⟨⟨cx, cx1, cx2⟩, fx, zx⟩ := hx.out
  have HN := Lib.hid (okS_shape c)
  by_cases c1 : s.H.length ≤ 30
  · have d1 : decide (30 < (s.H.length : Int)) = false := by simp; omega
    by_cases c2 : s.P.length ≤ 30
    · have d2 : decide (30 < (s.P.length : Int)) = false := by simp; omega
      by_cases c4 : s.G.length = s.P.length
      · have d4 : ((s.G.length : Int) != (s.P.length : Int)) = false := by simp; omega
        have d3 : ((s.H.length : Int) + (s.P.length : Int) == 0) = true := by
          have : ¬ 0 < s.H.length + s.P.length := fun q => c ⟨c1, c2, q, c4⟩
          simp; omega
        clear c c4
        go_enter Try.func89, Try.ntmps89
        go_wp2
        go_quiet (fail)
        go_wp2
        go_ret
        exact ⟨ret_bool HN.out, Drawn.below ⟨_, rfl⟩ _⟩
      · have d4 : ((s.G.length : Int) != (s.P.length : Int)) = true := by simp; omega
        clear c c4
        go_enter Try.func89, Try.ntmps89
        go_wp2
        go_quiet (fail)
        go_wp2
        go_ret
        exact ⟨ret_bool HN.out, Drawn.below ⟨_, rfl⟩ _⟩
    · have d2 : decide (30 < (s.P.length : Int)) = true := by simp; omega
      clear c
      go_enter Try.func89, Try.ntmps89
      go_wp2
      go_quiet (fail)
      go_wp2
      go_ret
      exact ⟨ret_bool HN.out, Drawn.below ⟨_, rfl⟩ _⟩
  · have d1 : decide (30 < (s.H.length : Int)) = true := by simp; omega
    clear c
    go_enter Try.func89, Try.ntmps89
    go_wp2
    go_quiet (fail)
    go_wp2
    go_ret
    exact ⟨ret_bool HN.out, Drawn.below ⟨_, rfl⟩ _⟩
set_option maxRecDepth 100000 in
set_option maxHeartbeats 3200000 in
theorem svalid_yesP (h p g : Value) (s : Src) (w : World) (b o : Nat) (ha : SlS w h p g s) (hx : P3 w b o h p g) (c : Shape s) :
    Calls Try.prog 89 #[.pointer (some ⟨b, o, none⟩)] w fun e w' => e = .returned (.bool (okSrc s)) ∧ Bl w w' := by
  have l1 := ha.1.len
  have l2 := ha.2.1.len
  have l3 := ha.2.2.len
  obtain ⟨a1, a2, a3⟩ := ha
  obtain ⟨ah, ch, rfl, hch⟩ := a1.form
  obtain ⟨ap, cp, rfl, hcp⟩ := a2.form
  obtain ⟨ag, cg, rfl, hcg⟩ := a3.form
  obtain ⟨⟨cx, cx1, cx2⟩, fx, zx⟩ := hx.out
  obtain ⟨c1, c2, c3, c4⟩ := c
  have d1 : decide (30 < (s.H.length : Int)) = false := by simp; omega
  have d2 : decide (30 < (s.P.length : Int)) = false := by simp; omega
  have c4' : ((s.G.length : Int) != (s.P.length : Int)) = false := by simp; omega
  have c3' : ((s.H.length : Int) + (s.P.length : Int) == 0) = false := by simp; omega
  have C4 := Lib.hid c4
  have C3 := Lib.hid c3
  have c4'' : s.P.length ≤ s.G.length := by omega
  clear c4 c3
  go_enter Try.func89, Try.ntmps89
  go_wp2
  go_quiet (fail)
  rename_i nq
  have hBw : Bl w (w.drewN nq) := Drawn.below ⟨_, rfl⟩ _
  go_wp2
  go_loop [3] (fun i => ∃ k : Nat, k ≤ s.H.length ∧ i = .int .i64 k ∧ (∀ (j : Nat) (x : Int), j < k → s.H[j]? = some x → lowAt j ≤ x ∧ x ≤ 1000000000)) (fun i => s.H.length - (intOf i).toNat)
  case atStart => exact ⟨0, Nat.zero_le _, rfl, fun j x hj => absurd hj (by omega)⟩
  case round =>
    obtain ⟨k, hk, rfl, hal⟩ := hrel
    have HAL := Lib.hid hal
    clear hal
    by_cases hlt : k < s.H.length
    · obtain ⟨b1, o1, rfl, x, hxx, hcx, hrx⟩ := a1.cellAt hBw hlt
      have HX := Lib.hid hxx
      clear hxx
      cases e : inB x (lowAt k) 1000000000 with
      | false =>
        have HN := Lib.hid (okS_no (s := s) fun q => inB_not e (q.hd k x HX.out))
        by_cases hk0 : k = 0
        · have e' : inB x (-1000000000) 1000000000 = false := by rw [← e, lowAt, if_pos hk0]
          have hk1 : ((k : Int) == 0) = true := by simp [hk0]
          clear e hk0
          go_wp2_with (go_at_call 93; refine (in_any _ _ _ _).mono ?_; rintro e w' ⟨rfl, rfl⟩)
          go_ret
          exact ⟨ret_bool HN.out, hBw⟩
        · have e' : inB x 1 1000000000 = false := by rw [← e, lowAt, if_neg hk0]
          have hk1 : ((k : Int) == 0) = false := by simp; omega
          clear e hk0
          go_wp2_with (go_at_call 93; refine (in_any _ _ _ _).mono ?_; rintro e w' ⟨rfl, rfl⟩)
          go_ret
          exact ⟨ret_bool HN.out, hBw⟩
      | true =>
        have HT := Lib.hid (upto_succ HAL.out HX.out (inB_iff.1 e))
        by_cases hk0 : k = 0
        · have e' : inB x (-1000000000) 1000000000 = true := by rw [← e, lowAt, if_pos hk0]
          have hk1 : ((k : Int) == 0) = true := by simp [hk0]
          clear e hk0
          go_wp2_with (go_at_call 93; refine (in_any _ _ _ _).mono ?_; rintro e w' ⟨rfl, rfl⟩)
          go_round
          case rel => exact ⟨k + 1, by omega, by go_num, HT.out⟩
          case measure => simp [intOf]; omega
        · have e' : inB x 1 1000000000 = true := by rw [← e, lowAt, if_neg hk0]
          have hk1 : ((k : Int) == 0) = false := by simp; omega
          clear e hk0
          go_wp2_with (go_at_call 93; refine (in_any _ _ _ _).mono ?_; rintro e w' ⟨rfl, rfl⟩)
          go_round
          case rel => exact ⟨k + 1, by omega, by go_num, HT.out⟩
          case measure => simp [intOf]; omega
    · have HD := Lib.hid (upto_all HAL.out (by omega))
      go_wp2
      go_loop [5] (fun i => ∃ k : Nat, k ≤ s.P.length ∧ i = .int .i64 k ∧ (∀ (j : Nat) (x : Int), j < k → s.P[j]? = some x → 1 ≤ x ∧ x ≤ 1000000) ∧ (∀ (j : Nat) (x : Int), j < k → s.G[j]? = some x → 0 ≤ x ∧ x ≤ 1000000)) (fun i => s.P.length - (intOf i).toNat)
      case atStart => exact ⟨0, Nat.zero_le _, rfl, fun j x hj => absurd hj (by omega), fun j x hj => absurd hj (by omega)⟩
      case round =>
        obtain ⟨m, hm, rfl, hal, hal2⟩ := hrel
        have HAL := Lib.hid hal
        have HAL2 := Lib.hid hal2
        clear hal hal2
        by_cases hlt : m < s.P.length
        · obtain ⟨b1, o1, rfl, x, hxx, hcx, hrx⟩ := a2.cellAt hBw hlt
          obtain ⟨b2, o2, rfl, y, hy, hcy, hry⟩ := a3.cellAt hBw (show m < s.G.length by omega)
          have HX := Lib.hid hxx
          have HY := Lib.hid hy
          have hmg : m < s.G.length := by omega
          clear hxx hy
          cases e : inB x 1 1000000 with
          | false =>
            have HN := Lib.hid (okS_no (s := s) fun q => inB_not e (q.per m x HX.out))
            go_wp2_with (go_at_call 93; refine (in_any _ _ _ _).mono ?_; rintro e w' ⟨rfl, rfl⟩)
            go_ret
            exact ⟨ret_bool HN.out, hBw⟩
          | true =>
            cases e2 : inB y 0 1000000 with
            | false =>
              have HN := Lib.hid (okS_no (s := s) fun q => inB_not e2 (q.gr m y HY.out))
              go_wp2_with (go_at_call 93; refine (in_any _ _ _ _).mono ?_; rintro e w' ⟨rfl, rfl⟩)
              go_ret
              exact ⟨ret_bool HN.out, hBw⟩
            | true =>
              have HT := Lib.hid (upto_succ HAL.out HX.out (inB_iff.1 e))
              have HT2 := Lib.hid (upto_succ HAL2.out HY.out (inB_iff.1 e2))
              go_wp2_with (go_at_call 93; refine (in_any _ _ _ _).mono ?_; rintro e w' ⟨rfl, rfl⟩)
              go_round
              case rel => exact ⟨m + 1, by omega, by go_num, HT.out, HT2.out⟩
              case measure => simp [intOf]; omega
        · have HP := Lib.hid (upto_all HAL.out (by omega))
          have HG := Lib.hid (upto_all HAL2.out (by have := C4.out; omega))
          go_wp2
          go_ret
          exact ⟨ret_bool (okS_yes ⟨c1, c2, C3.out, C4.out, HD.out, HP.out, HG.out⟩), hBw⟩
theorem svalid_anyP (h p g : Value) (s : Src) (w : World) (b o : Nat) (ha : SlS w h p g s) (hx : P3 w b o h p g) :
    Calls Try.prog 89 #[.pointer (some ⟨b, o, none⟩)] w fun e w' => e = .returned (.bool (okSrc s)) ∧ Bl w w' := by
  by_cases c : Shape s
  · exact svalid_yesP h p g s w b o ha hx c
  · exact svalid_noP h p g s w b o ha hx c
set_option maxRecDepth 100000 in
set_option maxHeartbeats 6400000 in
theorem plainSrc_anyP (h p g : Value) (s : Src) (w : World) (b o : Nat) (hs : SlS w h p g s) (hx : P3 w b o h p g) (ok : OkPer s) (hbd : ∀ y ∈ s.H, y ≤ 2000000000) :
    Calls Try.prog 90 #[.pointer (some ⟨b, o, none⟩)] w fun e w' => ∃ a1 n1 c1 a2 n2 c2 a3 n3 c3, e = .returned (.agg #[.slice a1 n1 c1, .slice a2 n2 c2, .slice a3 n3 c3]) ∧ SlS w' (.slice a1 n1 c1) (.slice a2 n2 c2) (.slice a3 n3 c3) (plainS s) ∧ Bl w w' := by
  have l1 := ok.h30
  have l2 := ok.p30
  have l3 : s.G.length ≤ 30 := by rw [ok.gp]; exact ok.p30
  go_enter Try.func90, Try.ntmps90
  go_wp2_with fail
  have BW := bl_alloc (bl_refl w) (.cells #[.slice none 0 0, .slice none 0 0, .slice none 0 0] 26)
  have hr0 := Bx.new (b := w.heap.size) w #[.slice none 0 0, .slice none 0 0, .slice none 0 0] 26 rfl
  have hx := hx.alloc (.cells #[.slice none 0 0, .slice none 0 0, .slice none 0 0] 26)
  have hs := hs.alloc (.cells #[.slice none 0 0, .slice none 0 0, .slice none 0 0] 26)
  generalize w.alloc (.cells #[.slice none 0 0, .slice none 0 0, .slice none 0 0] 26) = w0 at *
  obtain ⟨⟨cx, cx1, cx2⟩, fx, zx⟩ := hx.out
  go_cut [3] (fun s3 wx => ∃ q a1 c1 a2 c2 a3 c3, s3 = .pointer (some ⟨q, 0, none⟩) ∧ Bx wx q #[.slice a1 s.H.length c1, .slice a2 s.P.length c2, .slice a3 s.G.length c3] ∧ Own wx w0.heap.size (.slice a1 s.H.length c1) s.H ∧ Own wx w0.heap.size (.slice a2 s.P.length c2) s.P ∧ Own wx w0.heap.size (.slice a3 s.G.length c3) s.G ∧ w0.heap.size ≤ q ∧ Bl w0 wx)
  case first =>
    have BB := bl_refl w0
    have BB := bl_drew BB
    go_region_held3 (fun w' => w'.cell? ⟨b, o, none⟩ = some h ∧ w'.cell? ⟨b, o + 1, none⟩ = some p ∧ w'.cell? ⟨b, o + 2, none⟩ = some g) (first | (simp [*]; done) | (go_simp; done) | go_keep)
      (first | (go_at_call_of 87 h; go_must (refine (own_any h s.H _ (by first | exact hs.1.below BB | exact hs.1.below (bl_alloc BB _)) (by omega)).mono ?_; rintro e w1 ⟨a1, c1, rfl, o1, hb1⟩; have r1 := Lib.hid o1.lt; have z1 := hb1.size; have BB : Bl w0 w1 := bl_call (by first | exact BB | exact bl_alloc BB _) hb1; obtain ⟨⟨cx, cx1, cx2⟩, fx, zx⟩ := (hx.below BB).out; (first | (have o2 := o2.below hb1) | (have o2 := (o2.alloc _).below hb1) | skip); (first | (have o3 := o3.below hb1) | (have o3 := (o3.alloc _).below hb1) | skip); (first | (have nb := nb.below hb1; obtain ⟨cn, fn, zn⟩ := nb.out) | (have nb := (Bx.new _ #[.slice none 0 0, .slice none 0 0, .slice none 0 0] 26 rfl).below hb1; obtain ⟨cn, fn, zn⟩ := nb.out) | (have nb := (Bx.new w0 #[.slice none 0 0, .slice none 0 0, .slice none 0 0] 26 rfl).drew.below hb1; obtain ⟨cn, fn, zn⟩ := nb.out) | skip))) | (go_at_call_of 87 p; go_must (refine (own_any p s.P _ (by first | exact hs.2.1.below BB | exact hs.2.1.below (bl_alloc BB _)) (by omega)).mono ?_; rintro e w2 ⟨a2, c2, rfl, o2, hb2⟩; have r2 := Lib.hid o2.lt; have z2 := hb2.size; have BB : Bl w0 w2 := bl_call (by first | exact BB | exact bl_alloc BB _) hb2; obtain ⟨⟨cx, cx1, cx2⟩, fx, zx⟩ := (hx.below BB).out; (first | (have o1 := o1.below hb2) | (have o1 := (o1.alloc _).below hb2) | skip); (first | (have o3 := o3.below hb2) | (have o3 := (o3.alloc _).below hb2) | skip); (first | (have nb := nb.below hb2; obtain ⟨cn, fn, zn⟩ := nb.out) | (have nb := (Bx.new _ #[.slice none 0 0, .slice none 0 0, .slice none 0 0] 26 rfl).below hb2; obtain ⟨cn, fn, zn⟩ := nb.out) | (have nb := (Bx.new w0 #[.slice none 0 0, .slice none 0 0, .slice none 0 0] 26 rfl).drew.below hb2; obtain ⟨cn, fn, zn⟩ := nb.out) | skip))) | (go_at_call_of 87 g; go_must (refine (own_any g s.G _ (by first | exact hs.2.2.below BB | exact hs.2.2.below (bl_alloc BB _)) (by omega)).mono ?_; rintro e w3 ⟨a3, c3, rfl, o3, hb3⟩; have r3 := Lib.hid o3.lt; have z3 := hb3.size; have BB : Bl w0 w3 := bl_call (by first | exact BB | exact bl_alloc BB _) hb3; obtain ⟨⟨cx, cx1, cx2⟩, fx, zx⟩ := (hx.below BB).out; (first | (have o1 := o1.below hb3) | (have o1 := (o1.alloc _).below hb3) | skip); (first | (have o2 := o2.below hb3) | (have o2 := (o2.alloc _).below hb3) | skip); (first | (have nb := nb.below hb3; obtain ⟨cn, fn, zn⟩ := nb.out) | (have nb := (Bx.new _ #[.slice none 0 0, .slice none 0 0, .slice none 0 0] 26 rfl).below hb3; obtain ⟨cn, fn, zn⟩ := nb.out) | (have nb := (Bx.new w0 #[.slice none 0 0, .slice none 0 0, .slice none 0 0] 26 rfl).drew.below hb3; obtain ⟨cn, fn, zn⟩ := nb.out) | skip))))
    all_goals (go_wp2_with fail; go_meet)
    all_goals (first
      | (refine ⟨_, a1, c1, a2, c2, a3, c3, rfl, ((nb.set 0 _).set 1 _).set 2 _, ?_, ?_, ?_, ?_, ?_⟩
         · exact (((o1.far (fun k hk => by have q := r1.out k hk; (try simp at q z1 z2 z3); simp; omega) _).far (fun k hk => by have q := r1.out k hk; (try simp at q z1 z2 z3); simp; omega) _).far (fun k hk => by have q := r1.out k hk; (try simp at q z1 z2 z3); simp; omega) _).mono (by first | exact Nat.le_refl _ | ((try simp at z1 z2 z3); have h5 := hb1.size; (try simp at h5); first | omega | (simp; done) | (simp; omega)))
         · exact (((o2.far (fun k hk => by have q := r2.out k hk; (try simp at q z1 z2 z3); simp; omega) _).far (fun k hk => by have q := r2.out k hk; (try simp at q z1 z2 z3); simp; omega) _).far (fun k hk => by have q := r2.out k hk; (try simp at q z1 z2 z3); simp; omega) _).mono (by ((try simp at z1 z2 z3); have h5 := hb1.size; (try simp at h5); first | omega | (simp; done) | (simp; omega)))
         · exact (((o3.far (fun k hk => by have q := r3.out k hk; (try simp at q z1 z2 z3); simp; omega) _).far (fun k hk => by have q := r3.out k hk; (try simp at q z1 z2 z3); simp; omega) _).far (fun k hk => by have q := r3.out k hk; (try simp at q z1 z2 z3); simp; omega) _).mono (by ((try simp at z1 z2 z3); have h5 := hb1.size; (try simp at h5); first | omega | (simp; done) | (simp; omega)))
         · ((try simp at z1 z2 z3); have h5 := hb1.size; (try simp at h5); first | omega | (simp; done) | (simp; omega))
         · exact bl_set (bl_set (bl_set BB (by ((try simp at z1 z2 z3); have h5 := hb1.size; (try simp at h5); first | omega | (simp; done) | (simp; omega))) _) (by ((try simp at z1 z2 z3); have h5 := hb1.size; (try simp at h5); first | omega | (simp; done) | (simp; omega))) _) (by ((try simp at z1 z2 z3); have h5 := hb1.size; (try simp at h5); first | omega | (simp; done) | (simp; omega))) _)
      | exact ⟨_, a1, c1, a2, c2, a3, c3, rfl, Bx.new _ _ _ rfl, (o1.alloc _).mono (by first | exact Nat.le_refl _ | ((try simp at z1 z2 z3); have h5 := hb1.size; (try simp at h5); first | omega | (simp; done) | (simp; omega))), (o2.alloc _).mono (by ((try simp at z1 z2 z3); have h5 := hb1.size; (try simp at h5); first | omega | (simp; done) | (simp; omega))), (o3.alloc _).mono (by ((try simp at z1 z2 z3); have h5 := hb1.size; (try simp at h5); first | omega | (simp; done) | (simp; omega))), BB.size, bl_alloc BB _⟩)
  case rest =>
    obtain ⟨q, a1, c1, a2, c2, a3, c3, rfl, xq, o1, o2, o3, hq, hj⟩ := hcut
    obtain ⟨w4, rfl⟩ : ∃ x : World, x = wc := ⟨_, rfl⟩
    have B4 : Bl w w4 := bl_call BW hj
    have zr0 := hr0.out.2.2
    have hr := hr0.below hj
    clear cx cx1 cx2 fx zx
    obtain ⟨cq, fq, zq⟩ := xq.out
    obtain ⟨cr, fr, zr⟩ := hr.out
    have hne : w.heap.size ≠ q := by omega
    have HO1 := Lib.hid o1
    have HO2 := Lib.hid o2
    have HO3 := Lib.hid o3
    clear o1 o2 o3
    by_cases c : s.P.length = 0
    · have HP := Lib.hid (show plainS s = ⟨shortL s.H, [], []⟩ by rw [plainS, if_pos c])
      have HN := Lib.hid (show s.P = [] ∧ s.G = [] from ⟨List.eq_nil_of_length_eq_zero c, List.eq_nil_of_length_eq_zero (by rw [ok.gp]; exact c)⟩)
      have cb : ((s.P.length : Int) == 0) = true := beq_iff_eq.2 (by omega)
      clear c
      go_wp2_with fail
      refine (shortS_any _ s.H _ HO1.out.sl (by omega) hbd).mono ?_
      rintro e w5 ⟨a, c', rfl, ho, hb5⟩
      have B5 : Bl w w5 := bl_call B4 hb5
      have HO := Lib.hid ho
      have xq5 := xq.below hb5
      have hr5 := hr.below hb5
      clear cq fq cr fr ho
      obtain ⟨cq, fq, zq5⟩ := xq5.out
      obtain ⟨cr, fr, zr5⟩ := hr5.out
      go_wp2
      refine bodyPost_ret (v := .agg #[.slice a (shortL s.H).length c', .slice a2 s.P.length c2, .slice a3 s.G.length c3]) (by simp only [results, Try.results90]; go_simp) rfl ?_
      rw [HP.out]
      refine ⟨a, _, c', a2, _, c2, a3, _, c3, rfl, ⟨?_, ?_, ?_⟩, ?_⟩
      · refine Own.sl (B := w4.heap.size) ?_
        repeat first | (with_reducible exact HO.out) | (with_reducible refine Own.setCell ?_ (by first | exact zq | exact zr | (simp; omega)) _)
      · have h2 := HO2.out.sl
        rw [HN.out.1] at h2
        rw [HN.out.1]
        exact h2.empty
      · have h2 := HO3.out.sl
        rw [HN.out.2] at h2
        rw [HN.out.2]
        exact h2.empty
      · repeat first | (with_reducible exact B5) | (with_reducible refine bl_set ?_ (by first | exact Nat.le_refl _ | (simp; omega) | (have := BW.size; simp; omega)) _)
    · have HP := Lib.hid (show plainS s = s by rw [plainS, if_neg c])
      have cb : ((s.P.length : Int) == 0) = false := beq_eq_false_iff_ne.2 (by omega)
      clear c
      go_wp2
      refine bodyPost_ret (v := .agg #[.slice a1 s.H.length c1, .slice a2 s.P.length c2, .slice a3 s.G.length c3]) (by simp only [results, Try.results90]; go_simp) rfl ?_
      rw [HP.out]
      refine ⟨a1, _, c1, a2, _, c2, a3, _, c3, rfl, ⟨?_, ?_, ?_⟩, ?_⟩
      · refine Own.sl (B := w0.heap.size) ?_
        repeat first | (with_reducible exact HO1.out) | (with_reducible refine Own.setCell ?_ (by first | exact zr0 | (simp; omega)) _)
      · refine Own.sl (B := w0.heap.size) ?_
        repeat first | (with_reducible exact HO2.out) | (with_reducible refine Own.setCell ?_ (by first | exact zr0 | (simp; omega)) _)
      · refine Own.sl (B := w0.heap.size) ?_
        repeat first | (with_reducible exact HO3.out) | (with_reducible refine Own.setCell ?_ (by first | exact zr0 | (simp; omega)) _)
      · repeat first | (with_reducible exact B4) | (with_reducible refine bl_set ?_ (by first | exact Nat.le_refl _ | (simp; omega) | (have := BW.size; simp; omega)) _)
set_option maxRecDepth 100000 in
set_option maxHeartbeats 6400000 in
theorem scompare_anyP (hx px gx : Value) (s : Src) (hy py gy : Value) (t : Src) (m : Nat) (w : World) (bx ox by_ oy : Nat) (hs : SlS w hx px gx s) (ht : SlS w hy py gy t) (Bx0 : P3 w bx ox hx px gx) (By0 : P3 w by_ oy hy py gy) (os : OkPer s) (ot : OkPer t) (ks : ∀ y ∈ s.H, y ≤ 2000000000) (kt : ∀ y ∈ t.H, y ≤ 2000000000) (hm : m ≤ 1000000) :
    Calls Try.prog 83 #[.pointer (some ⟨bx, ox, none⟩), .pointer (some ⟨by_, oy, none⟩), .int .i64 m] w fun e w' => e = .returned (.tuple #[.int .i64 (cmpP (plainS s) (plainS t) m).1, .int .i64 (cmpP (plainS s) (plainS t) m).2]) ∧ Bl w w' := by
  have xX_0 := Bx0
  have xY_0 := By0
  obtain ⟨cX_0, fX_0, zX_0⟩ := xX_0.out
  obtain ⟨cY_0, fY_0, zY_0⟩ := xY_0.out
  have HS := Lib.hid hs
  have HT := Lib.hid ht
  clear hs ht
  go_enter Try.func83, Try.ntmps83
  go_wp2_with fail
  refine (plainSrc_anyP hx px gx s _ bx ox HS.out xX_0 os ks).mono ?_
  rintro e w1 ⟨u1, v1, z1, u2, v2, z2, u3, v3, z3, rfl, HA, hb1⟩
  have B1 : Bl w w1 := bl_call (bl_refl _) hb1
  have xX_1 : P3 w1 bx ox hx px gx := xX_0.below hb1
  have xY_1 : P3 w1 by_ oy hy py gy := xY_0.below hb1
  clear cX_0 fX_0 zX_0 cY_0 fY_0 zY_0
  obtain ⟨cX_1, fX_1, zX_1⟩ := xX_1.out
  obtain ⟨cY_1, fY_1, zY_1⟩ := xY_1.out
  have HA := Lib.hid HA
  go_wp2_with fail
  refine (plainSrc_anyP hy py gy t _ by_ oy (HT.out.below (bl_alloc B1 _)) (xY_1.alloc _) ot kt).mono ?_
  rintro e w2 ⟨p1, q1, r1, p2, q2, r2, p3, q3, r3, rfl, HB, hb2⟩
  have B2 : Bl w w2 := bl_call (bl_alloc B1 _) hb2
  have xX_2 : P3 w2 bx ox hx px gx := (xX_1.alloc _).below hb2
  have xY_2 : P3 w2 by_ oy hy py gy := (xY_1.alloc _).below hb2
  have xA_2 : Bx w2 (w1.heap.size) #[.slice u1 v1 z1, .slice u2 v2 z2, .slice u3 v3 z3] := (Bx.new (b := w1.heap.size) _ #[.slice u1 v1 z1, .slice u2 v2 z2, .slice u3 v3 z3] 26 (by first | rfl | simp)).below hb2
  clear cX_1 fX_1 zX_1 cY_1 fY_1 zY_1
  obtain ⟨cX_2, fX_2, zX_2⟩ := xX_2.out
  obtain ⟨cY_2, fY_2, zY_2⟩ := xY_2.out
  obtain ⟨cA_2, fA_2, zA_2⟩ := xA_2.out
  have HA := Lib.hid ((HA.out.alloc _).below hb2)
  have HB := Lib.hid (HB.alloc (.cells #[.slice p1 q1 r1, .slice p2 q2 r2, .slice p3 q3 r3] 26))
  have HA := Lib.hid (HA.out.alloc (.cells #[.slice p1 q1 r1, .slice p2 q2 r2, .slice p3 q3 r3] 26))
  go_wp2_with fail
  have B3 : Bl w (w2.alloc (.cells #[.slice p1 q1 r1, .slice p2 q2 r2, .slice p3 q3 r3] 26)) := (bl_alloc B2 _)
  have xX_3 : P3 (w2.alloc (.cells #[.slice p1 q1 r1, .slice p2 q2 r2, .slice p3 q3 r3] 26)) bx ox hx px gx := (xX_2.alloc _)
  have xY_3 : P3 (w2.alloc (.cells #[.slice p1 q1 r1, .slice p2 q2 r2, .slice p3 q3 r3] 26)) by_ oy hy py gy := (xY_2.alloc _)
  have xA_3 : Bx (w2.alloc (.cells #[.slice p1 q1 r1, .slice p2 q2 r2, .slice p3 q3 r3] 26)) (w1.heap.size) #[.slice u1 v1 z1, .slice u2 v2 z2, .slice u3 v3 z3] := (xA_2.alloc _)
  have xB_3 : Bx (w2.alloc (.cells #[.slice p1 q1 r1, .slice p2 q2 r2, .slice p3 q3 r3] 26)) (w2.heap.size) #[.slice p1 q1 r1, .slice p2 q2 r2, .slice p3 q3 r3] := (Bx.new (b := w2.heap.size) _ #[.slice p1 q1 r1, .slice p2 q2 r2, .slice p3 q3 r3] 26 (by first | rfl | simp))
  have zz3 : w2.heap.size + 1 ≤ (w2.alloc (.cells #[.slice p1 q1 r1, .slice p2 q2 r2, .slice p3 q3 r3] 26)).heap.size := (by simp)
  clear cX_2 fX_2 zX_2 cY_2 fY_2 zY_2 cA_2 fA_2 zA_2
  generalize (w2.alloc (.cells #[.slice p1 q1 r1, .slice p2 q2 r2, .slice p3 q3 r3] 26)) = w3 at *
  obtain ⟨cX_3, fX_3, zX_3⟩ := xX_3.out
  obtain ⟨cY_3, fY_3, zY_3⟩ := xY_3.out
  obtain ⟨cA_3, fA_3, zA_3⟩ := xA_3.out
  obtain ⟨cB_3, fB_3, zB_3⟩ := xB_3.out
  go_loopw [11, 10] (fun s11 s10 wr => ∃ k : Nat, s11 = .int .i64 k ∧ s10 = .int .i64 (sgnK k) ∧ k ≤ m ∧ Hid (cmpP (plainS s) (plainS t) m = cmpG (decF (plainS s) (plainS t)) (m - k) k) ∧ Bx wr (w1.heap.size) #[.slice u1 v1 z1, .slice u2 v2 z2, .slice u3 v3 z3] ∧ Bx wr (w2.heap.size) #[.slice p1 q1 r1, .slice p2 q2 r2, .slice p3 q3 r3] ∧ SlS wr (.slice u1 v1 z1) (.slice u2 v2 z2) (.slice u3 v3 z3) (plainS s) ∧ SlS wr (.slice p1 q1 r1) (.slice p2 q2 r2) (.slice p3 q3 r3) (plainS t) ∧ Bl w wr) (fun s11 _ _ => m - (intOf s11).toNat)
  case atStart =>
    exact ⟨0, rfl, rfl, Nat.zero_le _, Lib.hid rfl, xA_3, xB_3, HA.out, HB.out, B3⟩
  case round =>
    rcases hrel with ⟨k, rfl, rfl, hkm, hG, yA, yB, HA2, HB2, Br⟩
    have HA2 := Lib.hid HA2
    have HB2 := Lib.hid HB2
    clear cX_3 fX_3 zX_3 cY_3 fY_3 zY_3 cA_3 fA_3 zA_3 cB_3 fB_3 zB_3
    obtain ⟨cA, fA, zA⟩ := yA.out
    obtain ⟨cB, fB, zB⟩ := yB.out
    have hsg : -1 ≤ sgnK k ∧ sgnK k ≤ 1 := by unfold sgnK; split <;> omega
    by_cases hk : k < m
    ·
      obtain ⟨⟨x, o⟩, hx⟩ : ∃ z, termP (plainS s) k = z := ⟨_, rfl⟩
      obtain ⟨⟨y, u⟩, hy⟩ : ∃ z, termP (plainS t) k = z := ⟨_, rfl⟩
      have HX := Lib.hid hx
      have HY := Lib.hid hy
      have HD := Lib.hid (show decF (plainS s) (plainS t) k = decT (x, o) (y, u) k by rw [decF, hx, hy])
      clear hx hy
      go_wp2_with fail
      refine (sterm_eqS HX.out _ _ HA2.out yA os.plain (by omega)).mono ?_
      rintro e wr1 ⟨rfl, hbr1⟩
      have Br1 : Bl w wr1 := bl_call Br hbr1
      have xA_r1 : Bx wr1 (w1.heap.size) #[.slice u1 v1 z1, .slice u2 v2 z2, .slice u3 v3 z3] := yA.below hbr1
      have xB_r1 : Bx wr1 (w2.heap.size) #[.slice p1 q1 r1, .slice p2 q2 r2, .slice p3 q3 r3] := yB.below hbr1
      clear cA fA zA cB fB zB
      obtain ⟨cA_r1, fA_r1, zA_r1⟩ := xA_r1.out
      obtain ⟨cB_r1, fB_r1, zB_r1⟩ := xB_r1.out
      go_wp2_with fail
      refine (sterm_eqS HY.out _ _ (HB2.out.below hbr1) xB_r1 ot.plain (by omega)).mono ?_
      rintro e wr2 ⟨rfl, hbr2⟩
      have Br2 : Bl w wr2 := bl_call Br1 hbr2
      have xA_r2 : Bx wr2 (w1.heap.size) #[.slice u1 v1 z1, .slice u2 v2 z2, .slice u3 v3 z3] := xA_r1.below hbr2
      have xB_r2 : Bx wr2 (w2.heap.size) #[.slice p1 q1 r1, .slice p2 q2 r2, .slice p3 q3 r3] := xB_r1.below hbr2
      clear cA_r1 fA_r1 zA_r1 cB_r1 fB_r1 zB_r1
      obtain ⟨cA_r2, fA_r2, zA_r2⟩ := xA_r2.out
      obtain ⟨cB_r2, fB_r2, zB_r2⟩ := xB_r2.out
      cases o with
      | false =>
        cases u with
        | false =>
          have HE := Lib.hid (cmpG_some hG.out hk (c := 0) (by rw [HD.out]; simp [decT]))
          go_wp2
          go_ret2
          exact ⟨ret_ii HE.out, Br2⟩
        | true =>
          have HE := Lib.hid (cmpG_some hG.out hk (c := sgnK k) (by rw [HD.out]; simp [decT]))
          go_wp2
          go_ret2
          exact ⟨ret_ii HE.out, Br2⟩
      | true =>
        cases u with
        | false =>
          have HE := Lib.hid (cmpG_some hG.out hk (c := -sgnK k) (by rw [HD.out]; simp [decT]))
          go_wp2
          go_ret2
          exact ⟨ret_ii HE.out, Br2⟩
        | true =>
          rcases Int.lt_trichotomy x y with hxy | hxy | hxy
          ·
            have HE := Lib.hid (cmpG_some hG.out hk (c := -sgnK k) (by rw [HD.out]; simp [decT, hxy]))
            go_wp2
            go_ret2
            exact ⟨ret_ii HE.out, Br2⟩
          ·
            subst hxy
            have HE := Lib.hid (cmpG_none hG.out hk (by rw [HD.out]; simp [decT]))
            have hsn := Lib.hid (sgnK_succ k)
            go_wp2
            go_roundw
            case rel => exact ⟨k + 1, by go_num, by rw [hsn.out], by omega, HE, xA_r2, xB_r2, (HA2.out.below hbr1).below hbr2, (HB2.out.below hbr1).below hbr2, Br2⟩
            case measure => clear HE; simp only [intOf, Int.toNat_natCast]; omega
          ·
            have hyx : ¬ x < y := by omega
            have HE := Lib.hid (cmpG_some hG.out hk (c := sgnK k) (by rw [HD.out]; simp [decT, hxy, hyx]))
            go_wp2
            go_ret2
            exact ⟨ret_ii HE.out, Br2⟩
    ·
      have HE := Lib.hid (cmpG_end hG.out hk)
      go_wp2
      go_ret2
      exact ⟨ret_ii HE.out, Br⟩

end Go.Proofs.Ytgmofofokhlhnaa
