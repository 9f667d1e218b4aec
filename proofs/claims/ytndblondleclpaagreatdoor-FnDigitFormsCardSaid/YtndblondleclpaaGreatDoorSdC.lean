/- Draws of sources that are seldom not valid. Each theorem names its conditions. -/
import Derived.Test.YtndblondleclpaaGreatDoorSdB
namespace Go.Proofs.YtndblondleclpaaGreatDoor
open Go.RowKit
set_option linter.unusedVariables false
set_option linter.unusedSimpArgs false

def SrcB (w0 w : World) (p N : Nat) (e : Ending) (w' : World) : Prop :=
  ∃ h pp g s, e = .returned (.agg #[h, pp, g]) ∧ OwnS w' (w.heap.size + 1) h pp g s ∧ (s.H.length ≤ 4000 ∧ s.P.length ≤ 4000 ∧ s.G.length ≤ 4000) ∧ SrcD w0 w' p (N + 300) ∧ Upd w w' p
theorem srcb_set {w0 w w1 : World} {p N M : Nat} {h pp g : Value} {s : Src} (S : SrcD w0 w1 p M) (U : Upd w w1 p) (O : OwnS w1 (w.heap.size + 1) h pp g s) (hp : p < w.heap.size) (hM : M ≤ N + 300) (L : s.H.length ≤ 4000 ∧ s.P.length ≤ 4000 ∧ s.G.length ≤ 4000) :
    SrcB w0 w p N (.returned (.agg #[h, pp, g])) (((w1.setCell ⟨w.heap.size, 0, none⟩ h).setCell ⟨w.heap.size, 1, none⟩ pp).setCell ⟨w.heap.size, 2, none⟩ g) := by
  have h0 : w0.heap.size ≤ w.heap.size := by have := S.out.1; omega
  have st : ∀ {W : World} (j : Nat) (v : Value), OwnS W (w.heap.size + 1) h pp g s → OwnS (W.setCell ⟨w.heap.size, j, none⟩ v) (w.heap.size + 1) h pp g s := fun j v o => o.only2 (only_set _ _ _) (fun k hk e => by have := (o.blk k hk).1; simp at e; omega)
  refine ⟨h, pp, g, s, rfl, st 2 _ (st 1 _ (st 0 _ O)), L, ?_, upd_far (upd_far (upd_far U (q := ⟨w.heap.size, 0, none⟩) (by simp) _) (q := ⟨w.heap.size, 1, none⟩) (by simp) _) (q := ⟨w.heap.size, 2, none⟩) (by simp) _⟩
  exact (((S.far (q := ⟨w.heap.size, 0, none⟩) (by simpa using h0) (by simp; omega) _).far (q := ⟨w.heap.size, 1, none⟩) (by simpa using h0) (by simp; omega) _).far (q := ⟨w.heap.size, 2, none⟩) (by simpa using h0) (by simp; omega) _).more hM
theorem Dr.st0 {w0 w w1 : World} {p N b gb n c : Nat} {pp g : Value} {s : Src} (D : Dr w0 w w1 p N b (.slice (some ⟨gb, 0, none⟩) n c) pp g s) (y : Int) (hy : R64 y) : Dr w0 w (w1.setCell ⟨gb, 0, none⟩ (.int .i64 y)) p N b (.slice (some ⟨gb, 0, none⟩) n c) pp g ⟨s.H.set 0 y, s.P, s.G⟩ := by
  have ho := only_set w1 ⟨gb, 0, none⟩ (.int .i64 y)
  have hr := D.O.1.lt gb rfl
  have hpw := D.pw
  have hw0 := D.w0le
  have hnb := D.nb gb (.inl rfl)
  have hbb := D.bb
  refine ⟨D.S.only ho (by simp; omega) (fun k e => by simp at e; omega), upd_only D.U ho (fun k e => by simp at e; omega), D.X.only ho (by simp; omega), ⟨(D.O.1.stored 0 y hy).1, D.O.2.1.only ho (fun k e q => ?_), D.O.2.2.1.only ho (fun k e q => ?_), D.O.2.2.2⟩, D.nb, D.bb, D.R.only ho (by simp; omega), D.pw⟩
  · simp at q; subst q; exact D.O.2.2.2.1 k rfl e
  · simp at q; subst q; exact D.O.2.2.2.2.1 k rfl e
theorem own_madeAt3 (X : World) {B k : Nat} (hk : k = X.heap.size) (hB : B ≤ X.heap.size) : Own (X.alloc (.cells #[] 2)) B (.slice (some ⟨k, 0, none⟩) 0 0) [] := by subst hk; exact own_made X hB
/-- An empty list of the call's own in the head's place. -/
theorem Dr.hd0 {w0 w w1 : World} {p N b : Nat} {h pp g : Value} {s : Src} (D : Dr w0 w w1 p N b h pp g s) : Dr w0 w ((w1.setCell ⟨b, 0, none⟩ (.slice (some ⟨w1.heap.size, 0, none⟩) 0 0)).alloc (.cells #[] 2)) p N b (.slice (some ⟨w1.heap.size, 0, none⟩) 0 0) pp g ⟨[], s.P, s.G⟩ := by
  have hR := D.R.out.2.2
  have hbl := D.X.out.2.2
  have hbb := D.bb
  have hpw := D.pw
  have hw0 := D.w0le
  have hB : Bl (w1.setCell ⟨b, 0, none⟩ (.slice (some ⟨w1.heap.size, 0, none⟩) 0 0)) ((w1.setCell ⟨b, 0, none⟩ (.slice (some ⟨w1.heap.size, 0, none⟩) 0 0)).alloc (.cells #[] 2)) := bl_alloc (bl_refl _) _
  have o1 := own_madeAt3 (w1.setCell ⟨b, 0, none⟩ (.slice (some ⟨w1.heap.size, 0, none⟩) 0 0)) (k := w1.heap.size) (B := w.heap.size + 1) (by simp) (by simp; omega)
  refine ⟨(D.S.far (q := ⟨b, 0, none⟩) (by simp; omega) (by simp; omega) _).below hB, upd_bl (upd_far D.U (q := ⟨b, 0, none⟩) (by simp; omega) _) hB, (D.X.set 0 _).below hB, ⟨o1, (own_farU D.O.2.1 (p := ⟨b, 0, none⟩) (fun k e => D.nb k (.inr (.inl e))) _).below hB, (own_farU D.O.2.2.1 (p := ⟨b, 0, none⟩) (fun k e => D.nb k (.inr (.inr e))) _).below hB, ?_, ?_, D.O.2.2.2.2.2⟩, ?_, D.bb, (D.R.far (p := ⟨b, 0, none⟩) (by simp; omega) _).below hB, D.pw⟩
  · intro k e q
    have := (D.O.2.1.lt k q).2
    simp [Value.ownBlock] at e
    omega
  · intro k e q
    have := (D.O.2.2.1.lt k q).2
    simp [Value.ownBlock] at e
    omega
  · intro k hk
    rcases hk with e | e | e
    · simp [Value.ownBlock] at e; omega
    · exact D.nb k (.inr (.inl e))
    · exact D.nb k (.inr (.inr e))
theorem dr_box {w0 w w1 : World} {p N : Nat} {h pp g : Value} {s : Src} (S : SrcD w0 w1 p N) (U : Upd w w1 p) (O : OwnS w1 (w.heap.size + 1) h pp g s) (R : Bx w1 w.heap.size #[.slice none 0 0, .slice none 0 0, .slice none 0 0]) (hp : p < w.heap.size) : Dr w0 w (w1.alloc (.cells #[h, pp, g] 26)) p N w1.heap.size h pp g s := by
  have B : Bl w1 (w1.alloc (.cells #[h, pp, g] 26)) := bl_alloc (bl_refl _) _
  have := R.out.2.2
  exact ⟨S.below B, upd_bl U B, Bx.new (b := w1.heap.size) _ _ _ rfl, O.below B, fun k hk => by have := (O.blk k hk).2; omega, by omega, R.below B, hp⟩
set_option maxRecDepth 100000 in
set_option maxHeartbeats 25600000 in
theorem sbent15_any {w0 w : World} {p N : Nat} (h0 : SrcD w0 w p N) (hN : N ≤ 500000000) :
    Calls Tryz.prog 56 #[.pointer (some ⟨p, 0, none⟩)] w (SrcB w0 w p N) := by
  have hp := h0.out.2.1
  have hw0 : w0.heap.size ≤ w.heap.size := by have := h0.out; omega
  go_enter Tryz.func56, Tryz.ntmps56
  go_wp2_with fail
  have xR : Bx (w.alloc (.cells #[.slice none 0 0, .slice none 0 0, .slice none 0 0] 26)) w.heap.size #[.slice none 0 0, .slice none 0 0, .slice none 0 0] := Bx.new (b := w.heap.size) _ _ _ rfl
  have hA := h0.below (bl_alloc (bl_refl w) (.cells #[.slice none 0 0, .slice none 0 0, .slice none 0 0] 26))
  have uA : Upd w (w.alloc (.cells #[.slice none 0 0, .slice none 0 0, .slice none 0 0] 26)) p := upd_bl (upd_refl _ _) (bl_alloc (bl_refl w) _)
  have zA : w.heap.size + 1 ≤ (w.alloc (.cells #[.slice none 0 0, .slice none 0 0, .slice none 0 0] 26)).heap.size := by simp
  generalize w.alloc (.cells #[.slice none 0 0, .slice none 0 0, .slice none 0 0] 26) = wa at *
  refine (sdraw15_any hA (by omega)).mono ?_
  rintro e w1 ⟨h, pp, g, s, rfl, hO, hL, hS1, hU1⟩
  obtain ⟨⟨b1, m1, k1, rfl⟩, ⟨b2, m2, k2, rfl⟩, ⟨b3, m3, k3, rfl⟩⟩ := hO.shape
  have D1 := dr_box hS1 (upd_trans uA hU1) (hO.mono (B' := w.heap.size + 1) (by omega)) (xR.upd hU1 (by omega)) hp
  clear hA xR uA zA hO hS1 hU1 h0
  obtain ⟨l1, l2, l3, _⟩ := hL
  go_wp2_with fail
  obtain ⟨bO, hbO⟩ : ∃ bO, bO = w1.heap.size := ⟨_, rfl⟩
  rw [← hbO] at D1 ⊢
  generalize w1.alloc (.cells #[.slice b1 m1 k1, .slice b2 m2 k2, .slice b3 m3 k3] 26) = w2 at *
  clear hbO
  refine (dpick_any D1.S (by omega) (by omega)).mono ?_
  rintro e w3 ⟨x, rfl, x0, x1, hS3, hU3⟩
  have D3 := D1.upd hS3 hU3
  clear D1 hS3 hU3
  by_cases c0 : x = 0
  · subst c0
    obtain ⟨cO, fO, zO⟩ := D3.X.out
    have hn1 := D3.O.1.num
    by_cases hz : 0 < s.H.length
    · have hz2 : (0 : Int) < (m1 : Int) := by omega
      clear hn1
      obtain ⟨gb, rfl, hgb1, hgb2⟩ := D3.O.1.addr hz
      go_wp2_with fail
      have D4 := D3.bl (bl_drew (bl_refl w3))
      go_region_law ((first | (go_simp; go_at_call 76; go_must (refine (samong_any (b := w3.heap.size) (cs := #[.int .i64 (-1000000001), .int .i64 (-1000000000), .int .i64 1000000000, .int .i64 1000000001]) ((D4.bl (bl_alloc (bl_refl _) (.cells #[.int .i64 (-1000000001), .int .i64 (-1000000000), .int .i64 1000000000, .int .i64 1000000001] 2))).S) (by omega) (Bx.new (b := w3.heap.size) _ _ _ rfl) (by have := D3.R.out.2.2; have := D3.pw; omega) (by omega) (by omega) (fun i hi => by rcases (show i = 0 ∨ i = 1 ∨ i = 2 ∨ i = 3 by omega) with rfl | rfl | rfl | rfl <;> exact ⟨_, rfl, by unfold R64; omega⟩)).mono ?_; rintro e w8 ⟨y, rfl, hy, hS8, hU8⟩; have D8 := (D4.bl (bl_alloc (bl_refl _) (.cells #[.int .i64 (-1000000001), .int .i64 (-1000000000), .int .i64 1000000000, .int .i64 1000000001] 2))).upd hS8 hU8; clear cO fO zO; obtain ⟨cO, fO, zO⟩ := D8.X.out; obtain ⟨xh, hxh, cH, fH, _⟩ := D8.O.1.cellAt hz; clear hxh); go_wp2_with fail)))
      all_goals
        have D9 := D8.st0 y hy
        clear cO fO zO
        obtain ⟨cO, fO, zO⟩ := D9.X.out
        obtain ⟨cR, fR, zR⟩ := D9.R.out
        go_wp2
        refine bodyPost_ret (v := .agg #[.slice (some ⟨gb, 0, none⟩) m1 k1, .slice b2 m2 k2, .slice b3 m3 k3]) (by simp only [results, Tryz.results56]; go_simp) rfl ?_
        exact srcb_set D9.S D9.U D9.O hp (by omega) ⟨by simp; omega, by simp; omega, by simp; omega⟩
    · have hz2 : ¬ (0 : Int) < (m1 : Int) := by omega
      clear hn1 hz
      obtain ⟨cR, fR, zR⟩ := D3.R.out
      go_wp2
      refine bodyPost_ret (v := .agg #[.slice b1 m1 k1, .slice b2 m2 k2, .slice b3 m3 k3]) (by simp only [results, Tryz.results56]; go_simp) rfl ?_
      exact srcb_set D3.S D3.U D3.O hp (by omega) ⟨by omega, by omega, by omega⟩
  · have e0 : (x == 0) = false := by simp [c0]
    clear c0
    by_cases c1 : x = 1
    · subst c1
      obtain ⟨cO, fO, zO⟩ := D3.X.out
      have D4 := D3.bl (bl_drew (bl_refl w3))
      go_wp2_with fail
      go_region_law ((first | (go_simp; go_at_call 76; go_must (refine (samong_any (b := w3.heap.size) (cs := #[.int .i64 (-1), .int .i64 0, .int .i64 1000000000, .int .i64 1000000001]) ((D4.bl (bl_alloc (bl_refl _) (.cells #[.int .i64 (-1), .int .i64 0, .int .i64 1000000000, .int .i64 1000000001] 2))).S) (by omega) (Bx.new (b := w3.heap.size) _ _ _ rfl) (by have := D3.R.out.2.2; have := D3.pw; omega) (by omega) (by omega) (fun i hi => by rcases (show i = 0 ∨ i = 1 ∨ i = 2 ∨ i = 3 by omega) with rfl | rfl | rfl | rfl <;> exact ⟨_, rfl, by unfold R64; omega⟩)).mono ?_; rintro e w8 ⟨y, rfl, hy, hS8, hU8⟩; have D8 := (D4.bl (bl_alloc (bl_refl _) (.cells #[.int .i64 (-1), .int .i64 0, .int .i64 1000000000, .int .i64 1000000001] 2))).upd hS8 hU8; clear cO fO zO; obtain ⟨cO, fO, zO⟩ := D8.X.out); go_wp2_with fail) | (refine step_append_i1 (by rfl) _ _ (by rfl) (w.heap.size + 1) _ s.H (by rfl) ((D8.bl (bl_alloc (bl_refl _) _)).O.1) w8.heap.size (y) hy (by rfl) (Bx.new (b := w8.heap.size) w8 #[.int .i64 (y)] 2 (by rfl)) (by omega) (by have := D8.R.out.2.2; simp; omega) ?_; intro v' wn ho hg hloc; obtain ⟨a1, n1, rfl, _⟩ := ho.form; have A0 := (D8.bl (bl_alloc (bl_refl _) (.cells #[.int .i64 (y)] 2))).app0 ho hg hloc (Nat.le_refl _); clear cO fO zO; obtain ⟨cO, fO, zO⟩ := A0.X.out; clear A0)))
      all_goals
        have hln : (s.H ++ [y]).length = s.H.length + 1 := by simp
        rw [hln] at ho hloc
        have A := (D8.bl (bl_alloc (bl_refl _) (.cells #[.int .i64 y] 2))).app0 ho hg hloc (Nat.le_refl _)
        clear ho hg hloc
        have D9 := A.D
        clear A cO fO zO
        obtain ⟨cO, fO, zO⟩ := D9.X.out
        obtain ⟨cR, fR, zR⟩ := D9.R.out
        go_wp2
        refine bodyPost_ret (v := .agg #[.slice a1 (s.H.length + 1) n1, .slice b2 m2 k2, .slice b3 m3 k3]) (by simp only [results, Tryz.results56]; go_simp) rfl ?_
        exact srcb_set D9.S D9.U D9.O hp (by omega) ⟨by simp; omega, by simp; omega, by simp; omega⟩
    · have e1 : (x == 1) = false := by simp [c1]
      clear c1
      by_cases c2 : x = 2
      · subst c2
        obtain ⟨cO, fO, zO⟩ := D3.X.out
        have D4 := D3.bl (bl_drew (bl_refl w3))
        go_wp2_with fail
        go_cut [33, 34, 35, 36, 37, 38, 39, 40] from 33 to 40 (fun _ _ _ _ _ _ _ _ wx => ∃ (pp' : Value) (s' : Src), Hid (Dr w0 w wx p (N + 230) bO (.slice b1 m1 k1) pp' (.slice b3 m3 k3) s') ∧ s'.H.length ≤ 2000 ∧ s'.P.length ≤ 2001 ∧ s'.G.length ≤ 2000)
        case first =>
          go_region_law ((first | (go_simp; go_at_call 76; go_must (refine (samong_any (b := w3.heap.size) (cs := #[.int .i64 0, .int .i64 1, .int .i64 1000000, .int .i64 1000001]) ((D4.bl (bl_alloc (bl_refl _) (.cells #[.int .i64 0, .int .i64 1, .int .i64 1000000, .int .i64 1000001] 2))).S) (by omega) (Bx.new (b := w3.heap.size) _ _ _ rfl) (by have := D3.R.out.2.2; have := D3.pw; omega) (by omega) (by omega) (fun i hi => by rcases (show i = 0 ∨ i = 1 ∨ i = 2 ∨ i = 3 by omega) with rfl | rfl | rfl | rfl <;> exact ⟨_, rfl, by unfold R64; omega⟩)).mono ?_; rintro e w8 ⟨y, rfl, hy, hS8, hU8⟩; have D8 := (D4.bl (bl_alloc (bl_refl _) (.cells #[.int .i64 0, .int .i64 1, .int .i64 1000000, .int .i64 1000001] 2))).upd hS8 hU8; clear cO fO zO; obtain ⟨cO, fO, zO⟩ := D8.X.out); go_wp2_with fail) | (refine step_append_i1 (by rfl) _ _ (by rfl) (w.heap.size + 1) _ s.P (by rfl) ((D8.bl (bl_alloc (bl_refl _) _)).O.2.1) w8.heap.size (y) hy (by rfl) (Bx.new (b := w8.heap.size) w8 #[.int .i64 (y)] 2 (by rfl)) (by omega) (by have := D8.R.out.2.2; simp; omega) ?_; intro v' wn ho hg hloc; obtain ⟨a1, n1, rfl, _⟩ := ho.form; have A0 := (D8.bl (bl_alloc (bl_refl _) (.cells #[.int .i64 (y)] 2))).app1 ho hg hloc (Nat.le_refl _); clear cO fO zO; obtain ⟨cO, fO, zO⟩ := A0.X.out; clear A0)))
          all_goals
            have hln : (s.P ++ [y]).length = s.P.length + 1 := by simp
            rw [hln] at ho hloc
            have A := (D8.bl (bl_alloc (bl_refl _) (.cells #[.int .i64 y] 2))).app1 ho hg hloc (Nat.le_refl _)
            clear ho hg hloc
            go_wp2_with fail
            go_meet
            exact ⟨_, _, Lib.hid (A.D.more (by omega)), l1, by simp; omega, l3⟩
        case rest =>
          obtain ⟨pp', s', hD, l1', l2', l3'⟩ := hcut
          clear D3 D4 cO fO zO l1 l2 l3
          obtain ⟨w9, rfl⟩ : ∃ x : World, x = wc := ⟨_, rfl⟩
          have D := hD.out
          clear hD
          obtain ⟨_, ⟨b2', m2', k2', rfl⟩, _⟩ := D.O.shape
          obtain ⟨cO, fO, zO⟩ := D.X.out
          have DD := D.bl (bl_drew (bl_refl w9))
          go_wp2_with fail
          go_region_law ((first | (go_simp; go_at_call 76; go_must (refine (samong_any (b := w9.heap.size) (cs := #[.int .i64 (-1), .int .i64 0, .int .i64 1000000, .int .i64 1000001]) ((DD.bl (bl_alloc (bl_refl _) (.cells #[.int .i64 (-1), .int .i64 0, .int .i64 1000000, .int .i64 1000001] 2))).S) (by omega) (Bx.new (b := w9.heap.size) _ _ _ rfl) (by have := D.R.out.2.2; have := D.pw; omega) (by omega) (by omega) (fun i hi => by rcases (show i = 0 ∨ i = 1 ∨ i = 2 ∨ i = 3 by omega) with rfl | rfl | rfl | rfl <;> exact ⟨_, rfl, by unfold R64; omega⟩)).mono ?_; rintro e w8 ⟨y, rfl, hy, hS8, hU8⟩; have D8 := (DD.bl (bl_alloc (bl_refl _) (.cells #[.int .i64 (-1), .int .i64 0, .int .i64 1000000, .int .i64 1000001] 2))).upd hS8 hU8; clear cO fO zO; obtain ⟨cO, fO, zO⟩ := D8.X.out); go_wp2_with fail) | (refine step_append_i1 (by rfl) _ _ (by rfl) (w.heap.size + 1) _ s'.G (by rfl) ((D8.bl (bl_alloc (bl_refl _) _)).O.2.2.1) w8.heap.size (y) hy (by rfl) (Bx.new (b := w8.heap.size) w8 #[.int .i64 (y)] 2 (by rfl)) (by omega) (by have := D8.R.out.2.2; simp; omega) ?_; intro v' wn ho hg hloc; obtain ⟨a1, n1, rfl, _⟩ := ho.form; have A0 := (D8.bl (bl_alloc (bl_refl _) (.cells #[.int .i64 (y)] 2))).app2 ho hg hloc (Nat.le_refl _); clear cO fO zO; obtain ⟨cO, fO, zO⟩ := A0.X.out; clear A0)))
          all_goals
            have hln : (s'.G ++ [y]).length = s'.G.length + 1 := by simp
            rw [hln] at ho hloc
            have A := (D8.bl (bl_alloc (bl_refl _) (.cells #[.int .i64 y] 2))).app2 ho hg hloc (Nat.le_refl _)
            clear ho hg hloc
            have D9 := A.D
            clear A cO fO zO
            obtain ⟨cO, fO, zO⟩ := D9.X.out
            obtain ⟨cR, fR, zR⟩ := D9.R.out
            go_wp2
            refine bodyPost_ret (v := .agg #[.slice b1 m1 k1, .slice b2' m2' k2', .slice a1 (s'.G.length + 1) n1]) (by simp only [results, Tryz.results56]; go_simp) rfl ?_
            exact srcb_set D9.S D9.U D9.O hp (by omega) ⟨by show s'.H.length ≤ _; omega, by show s'.P.length ≤ _; omega, by simp; omega⟩
      · have e2 : (x == 2) = false := by simp [c2]
        clear c2
        by_cases c3 : x = 3
        · subst c3
          obtain ⟨cO, fO, zO⟩ := D3.X.out
          have hR3 := D3.R.out.2.2
          have hbn : bO ≠ w.heap.size := by have := D3.bb; omega
          have hbn2 : ¬ w.heap.size = bO := by omega
          go_wp2_with (at_builtin; refine wpList_append_one rfl _ _ rfl (w.heap.size + 1) _ s.G (by rfl) D3.O.2.2.1 1 (by unfold R64; omega) (by first | rfl | simp [Act.eval]) (by omega) (by omega) ?_; intro v' wn ho hg hloc; obtain ⟨a1, n1, rfl, _⟩ := ho.form; have A0 := D3.app2 ho hg hloc (Nat.le_succ _); clear cO fO zO; obtain ⟨cO, fO, zO⟩ := A0.X.out; clear A0; have xRn := D3.R.grownApartF hg (fun e => by have := (D3.O.2.2.1.lt _ e).1; omega); obtain ⟨cR, fR, zR⟩ := xRn.out)
          have hln : (s.G ++ [1]).length = s.G.length + 1 := by simp
          rw [hln] at ho hloc
          have A := D3.app2 ho hg hloc (Nat.le_succ _)
          clear ho hg hloc
          have D9 := A.D
          try go_wp2
          refine bodyPost_ret (v := .agg #[.slice b1 m1 k1, .slice b2 m2 k2, .slice a1 (s.G.length + 1) n1]) (by simp only [results, Tryz.results56]; go_simp) rfl ?_
          exact srcb_set D9.S D9.U D9.O hp (by omega) ⟨by show s.H.length ≤ _; omega, by show s.P.length ≤ _; omega, by simp; omega⟩
        · have e3 : (x == 3) = false := by simp [c3]
          clear c3
          by_cases c4 : x = 4
          · subst c4
            obtain ⟨cR, fR, zR⟩ := D3.R.out
            go_wp2
            refine bodyPost_ret (v := .agg #[.slice none 0 0, .slice none 0 0, .slice none 0 0]) (by simp only [results, Tryz.results56]; go_simp) rfl ?_
            exact srcb_set D3.S D3.U (ownS_nilK _ _) hp (by omega) ⟨by simp, by simp, by simp⟩
          · have e4 : (x == 4) = false := by simp [c4]
            clear c4
            by_cases c5 : x = 5
            · subst c5
              obtain ⟨cO, fO, zO⟩ := D3.X.out
              have D4 := D3.hd0
              go_wp2_with fail
              generalize (w3.setCell ⟨bO, 0, none⟩ (.slice (some ⟨w3.heap.size, 0, none⟩) 0 0)).alloc (.cells #[] 2) = w4 at *
              clear cO fO zO
              refine (dpick_any D4.S (by omega) (by omega)).mono ?_
              rintro e w5 ⟨r, rfl, r0, r1, hS5, hU5⟩
              have D5 := D4.upd hS5 hU5
              clear D4 hS5 hU5
              go_wp2_with fail
              go_loopw [4] (fun s4 wr => ∃ (c : Int) (h : Value) (xs : List Int), s4 = .int .i64 c ∧ 0 ≤ c ∧ c ≤ 31 ∧ Dr w0 w wr p (N + 240) bO h (.slice b2 m2 k2) (.slice b3 m3 k3) ⟨xs, s.P, s.G⟩ ∧ xs.length ≤ 31 - c.toNat) (fun s4 _ => (intOf s4).toNat)
              case atStart => exact ⟨30 + r, _, [], by go_num, by omega, by omega, D5.more (by omega), by simp⟩
              case round =>
                clear D5 D3
                obtain ⟨c, h, xs, rfl, q0, q31, D, lx⟩ := hrel
                obtain ⟨⟨d1, d2, d3, rfl⟩, _, _⟩ := D.O.shape
                obtain ⟨cO, fO, zO⟩ := D.X.out
                by_cases qc : 0 < c
                · have hRr := D.R.out.2.2
                  go_wp2_with (at_builtin; refine wpList_append_one rfl _ _ rfl (w.heap.size + 1) _ xs (by rfl) D.O.1 1 (by unfold R64; omega) (by first | rfl | simp [Act.eval]) (by omega) (by omega) ?_; intro v' wn ho hg hloc; obtain ⟨a1, n1, rfl, _⟩ := ho.form; have A0 := D.app0 ho hg hloc (Nat.le_succ _); clear cO fO zO; obtain ⟨cO, fO, zO⟩ := A0.X.out; clear A0)
                  have hln : (xs ++ [1]).length = xs.length + 1 := by simp
                  rw [hln] at ho hloc
                  have A := D.app0 (s := ⟨xs, s.P, s.G⟩) ho hg hloc (Nat.le_succ _)
                  clear ho hg hloc
                  go_wp2
                  go_roundw
                  case rel => exact ⟨c - 1, _, _, by go_num, by omega, by omega, A.D, by simp; omega⟩
                  case measure => simp only [intOf]; omega
                · obtain ⟨cR, fR, zR⟩ := D.R.out
                  go_wp2
                  refine bodyPost_ret (v := .agg #[.slice d1 d2 d3, .slice b2 m2 k2, .slice b3 m3 k3]) (by simp only [results, Tryz.results56]; go_simp) rfl ?_
                  exact srcb_set D.S D.U D.O hp (by omega) ⟨by show xs.length ≤ _; omega, by show s.P.length ≤ _; omega, by show s.G.length ≤ _; omega⟩
            · have e5 : (x == 5) = false := by simp [c5]
              clear c5
              obtain ⟨cO, fO, zO⟩ := D3.X.out
              obtain ⟨cR, fR, zR⟩ := D3.R.out
              go_wp2
              refine bodyPost_ret (v := .agg #[.slice b1 m1 k1, .slice b2 m2 k2, .slice b3 m3 k3]) (by simp only [results, Tryz.results56]; go_simp) rfl ?_
              exact srcb_set D3.S D3.U D3.O hp (by omega) ⟨by omega, by omega, by omega⟩

end Go.Proofs.YtndblondleclpaaGreatDoor
