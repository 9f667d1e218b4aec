/- Some of the texts of this claim, joined in one file: SdC, FirstL, ConvAt, SdE. -/
import Derived.Test.YtgkelemfbmmgnaaMO1
import Derived.Test.YtgkelemfbmmgnaaFirstT
import Derived.Test.YtgkelemfbmmgnaaConv
import Derived.Test.YtgkelemfbmmgnaaSdD
/- Draws of sources that are seldom not valid. Each theorem names its conditions. -/
namespace Go.Proofs.Ytgkelemfbmmgnaa
open Go.RowKit
set_option linter.unusedVariables false
set_option linter.unusedSimpArgs false

def SrcB (w0 w : World) (p N : Nat) (e : Ending) (w' : World) : Prop :=
  ∃ h pp g s, e = .returned (.agg #[h, pp, g]) ∧ OwnS w' (w.heap.size + 1) h pp g s ∧ (s.H.length ≤ 3000000 ∧ s.P.length ≤ 3000000 ∧ s.G.length ≤ 3000000) ∧ SrcD w0 w' p (N + 300) ∧ Upd w w' p
theorem srcb_set {w0 w w1 : World} {p N M : Nat} {h pp g : Value} {s : Src} (S : SrcD w0 w1 p M) (U : Upd w w1 p) (O : OwnS w1 (w.heap.size + 1) h pp g s) (hp : p < w.heap.size) (hM : M ≤ N + 300) (L : s.H.length ≤ 3000000 ∧ s.P.length ≤ 3000000 ∧ s.G.length ≤ 3000000) :
    SrcB w0 w p N (.returned (.agg #[h, pp, g])) (((w1.setCell ⟨w.heap.size, 0, none⟩ h).setCell ⟨w.heap.size, 1, none⟩ pp).setCell ⟨w.heap.size, 2, none⟩ g) := by
  have h0 : w0.heap.size ≤ w.heap.size := by have := S.out.1; omega
  have st : ∀ {W : World} (j : Nat) (v : Value), OwnS W (w.heap.size + 1) h pp g s → OwnS (W.setCell ⟨w.heap.size, j, none⟩ v) (w.heap.size + 1) h pp g s := fun j v o => o.only2 (only_set _ _ _) (fun k hk e => by have := (o.blk k hk).1; simp at e; omega)
  refine ⟨h, pp, g, s, rfl, st 2 _ (st 1 _ (st 0 _ O)), L, ?_, upd_far (upd_far (upd_far U (q := ⟨w.heap.size, 0, none⟩) (by simp) _) (q := ⟨w.heap.size, 1, none⟩) (by simp) _) (q := ⟨w.heap.size, 2, none⟩) (by simp) _⟩
  exact (((S.far (q := ⟨w.heap.size, 0, none⟩) (by simpa using h0) (by simp; omega) _).far (q := ⟨w.heap.size, 1, none⟩) (by simpa using h0) (by simp; omega) _).far (q := ⟨w.heap.size, 2, none⟩) (by simpa using h0) (by simp; omega) _).more hM
theorem Dr.st0 {w0 w w1 : World} {p N b gb n c : Nat} {pp g : Value} {s : Src} (D : Dr w0 w w1 p N b (.slice (some ⟨gb, 0, none⟩) n c) pp g s) (y : Int) (hy : R64 y) : Dr w0 w (w1.setCell ⟨gb, 0, none⟩ (.int .i64 y)) p N b (.slice (some ⟨gb, 0, none⟩) n c) pp g ⟨s.H.set 0 y, s.P, s.G⟩ := by
  have ho := only_set w1 ⟨gb, 0, none⟩ (.int .i64 y)
  have hr := D.O.1.lt gb rfl
  have hpw := D.pw
  have hw0 := D.w0le
  have hnb := D.nb gb (.inl rfl)
  have hbb := D.bb
  refine ⟨D.S.only ho (by simp; omega) (fun k e => by simp at e; omega), upd_only D.U ho (fun k e => by simp at e; omega), D.X.only ho (by simp; omega), ⟨(D.O.1.stored 0 y hy).1, D.O.2.1.only ho (fun k e q => ?_), D.O.2.2.1.only ho (fun k e q => ?_), D.O.2.2.2⟩, D.nb, D.bb, D.R.only ho (by simp; omega), D.pw⟩
  · simp at q; subst q; exact D.O.2.2.2.1 k rfl e
  · simp at q; subst q; exact D.O.2.2.2.2.1 k rfl e
theorem own_madeAt3 (X : World) {B k : Nat} (hk : k = X.heap.size) (hB : B ≤ X.heap.size) : Own (X.alloc (.cells #[] 2)) B (.slice (some ⟨k, 0, none⟩) 0 0) [] := by subst hk; exact own_made X hB
/-- An empty list of the call's own in the head's place. -/
theorem Dr.hd0 {w0 w w1 : World} {p N b : Nat} {h pp g : Value} {s : Src} (D : Dr w0 w w1 p N b h pp g s) : Dr w0 w ((w1.setCell ⟨b, 0, none⟩ (.slice (some ⟨w1.heap.size, 0, none⟩) 0 0)).alloc (.cells #[] 2)) p N b (.slice (some ⟨w1.heap.size, 0, none⟩) 0 0) pp g ⟨[], s.P, s.G⟩ := by
  have hR := D.R.out.2.2
  have hbl := D.X.out.2.2
  have hbb := D.bb
  have hpw := D.pw
  have hw0 := D.w0le
  have hB : Bl (w1.setCell ⟨b, 0, none⟩ (.slice (some ⟨w1.heap.size, 0, none⟩) 0 0)) ((w1.setCell ⟨b, 0, none⟩ (.slice (some ⟨w1.heap.size, 0, none⟩) 0 0)).alloc (.cells #[] 2)) := bl_alloc (bl_refl _) _
  have o1 := own_madeAt3 (w1.setCell ⟨b, 0, none⟩ (.slice (some ⟨w1.heap.size, 0, none⟩) 0 0)) (k := w1.heap.size) (B := w.heap.size + 1) (by simp) (by simp; omega)
  refine ⟨(D.S.far (q := ⟨b, 0, none⟩) (by simp; omega) (by simp; omega) _).below hB, upd_bl (upd_far D.U (q := ⟨b, 0, none⟩) (by simp; omega) _) hB, (D.X.set 0 _).below hB, ⟨o1, (own_farU D.O.2.1 (p := ⟨b, 0, none⟩) (fun k e => D.nb k (.inr (.inl e))) _).below hB, (own_farU D.O.2.2.1 (p := ⟨b, 0, none⟩) (fun k e => D.nb k (.inr (.inr e))) _).below hB, ?_, ?_, D.O.2.2.2.2.2⟩, ?_, D.bb, (D.R.far (p := ⟨b, 0, none⟩) (by simp; omega) _).below hB, D.pw⟩
  · intro k e q
    have := (D.O.2.1.lt k q).2
    simp [Value.ownBlock] at e
    omega
  · intro k e q
    have := (D.O.2.2.1.lt k q).2
    simp [Value.ownBlock] at e
    omega
  · intro k hk
    rcases hk with e | e | e
    · simp [Value.ownBlock] at e; omega
    · exact D.nb k (.inr (.inl e))
    · exact D.nb k (.inr (.inr e))
theorem dr_box {w0 w w1 : World} {p N : Nat} {h pp g : Value} {s : Src} (S : SrcD w0 w1 p N) (U : Upd w w1 p) (O : OwnS w1 (w.heap.size + 1) h pp g s) (R : Bx w1 w.heap.size #[.slice none 0 0, .slice none 0 0, .slice none 0 0]) (hp : p < w.heap.size) : Dr w0 w (w1.alloc (.cells #[h, pp, g] 26)) p N w1.heap.size h pp g s := by
  have B : Bl w1 (w1.alloc (.cells #[h, pp, g] 26)) := bl_alloc (bl_refl _) _
  have := R.out.2.2
  exact ⟨S.below B, upd_bl U B, Bx.new (b := w1.heap.size) _ _ _ rfl, O.below B, fun k hk => by have := (O.blk k hk).2; omega, by omega, R.below B, hp⟩
set_option maxRecDepth 100000 in
set_option maxHeartbeats 25600000 in
theorem sbent15_any {w0 w : World} {p N : Nat} (h0 : SrcD w0 w p N) (hN : N ≤ 500000000) :
    Calls Try.prog 77 #[.pointer (some ⟨p, 0, none⟩)] w (SrcB w0 w p N) := by
  have hp := h0.out.2.1
  have hw0 : w0.heap.size ≤ w.heap.size := by have := h0.out; omega
  go_enter Try.func77, Try.ntmps77
  go_wp2_with fail
  have xR : Bx (w.alloc (.cells #[.slice none 0 0, .slice none 0 0, .slice none 0 0] 26)) w.heap.size #[.slice none 0 0, .slice none 0 0, .slice none 0 0] := Bx.new (b := w.heap.size) _ _ _ rfl
  have hA := h0.below (bl_alloc (bl_refl w) (.cells #[.slice none 0 0, .slice none 0 0, .slice none 0 0] 26))
  have uA : Upd w (w.alloc (.cells #[.slice none 0 0, .slice none 0 0, .slice none 0 0] 26)) p := upd_bl (upd_refl _ _) (bl_alloc (bl_refl w) _)
  have zA : w.heap.size + 1 ≤ (w.alloc (.cells #[.slice none 0 0, .slice none 0 0, .slice none 0 0] 26)).heap.size := by simp
  generalize w.alloc (.cells #[.slice none 0 0, .slice none 0 0, .slice none 0 0] 26) = wa at *
  refine (sdraw15_any hA (by omega)).mono ?_
  rintro e w1 ⟨h, pp, g, s, rfl, hO, hL, hS1, hU1⟩
  obtain ⟨⟨b1, m1, k1, rfl⟩, ⟨b2, m2, k2, rfl⟩, ⟨b3, m3, k3, rfl⟩⟩ := hO.shape
  have D1 := dr_box hS1 (upd_trans uA hU1) (hO.mono (B' := w.heap.size + 1) (by omega)) (xR.upd hU1 (by omega)) hp
  clear hA xR uA zA hO hS1 hU1 h0
  obtain ⟨l1, l2, l3⟩ := hL
  go_wp2_with fail
  obtain ⟨bO, hbO⟩ : ∃ bO, bO = w1.heap.size := ⟨_, rfl⟩
  rw [← hbO] at D1 ⊢
  generalize w1.alloc (.cells #[.slice b1 m1 k1, .slice b2 m2 k2, .slice b3 m3 k3] 26) = w2 at *
  clear hbO
  refine (dpick_any D1.S (by omega) (by omega)).mono ?_
  rintro e w3 ⟨x, rfl, x0, x1, hS3, hU3⟩
  have D3 := D1.upd hS3 hU3
  clear D1 hS3 hU3
  by_cases c0 : x = 0
  · subst c0
    obtain ⟨cO, fO, zO⟩ := D3.X.out
    have hn1 := D3.O.1.num
    by_cases hz : 0 < s.H.length
    · have hz2 : (0 : Int) < (m1 : Int) := by omega
      clear hn1
      obtain ⟨gb, rfl, hgb1, hgb2⟩ := D3.O.1.addr hz
      go_wp2_with fail
      have D4 := D3.bl (bl_drew (bl_refl w3))
      go_region_law ((first | (go_simp; go_at_call 80; go_must (refine (samong_any (b := w3.heap.size) (cs := #[.int .i64 (-1000000001), .int .i64 (-1000000000), .int .i64 1000000000, .int .i64 1000000001]) ((D4.bl (bl_alloc (bl_refl _) (.cells #[.int .i64 (-1000000001), .int .i64 (-1000000000), .int .i64 1000000000, .int .i64 1000000001] 2))).S) (by omega) (Bx.new (b := w3.heap.size) _ _ _ rfl) (by have := D3.R.out.2.2; have := D3.pw; omega) (by omega) (by omega) (fun i hi => by rcases (show i = 0 ∨ i = 1 ∨ i = 2 ∨ i = 3 by omega) with rfl | rfl | rfl | rfl <;> exact ⟨_, rfl, by unfold R64; omega⟩)).mono ?_; rintro e w8 ⟨y, rfl, hy, hS8, hU8⟩; have D8 := (D4.bl (bl_alloc (bl_refl _) (.cells #[.int .i64 (-1000000001), .int .i64 (-1000000000), .int .i64 1000000000, .int .i64 1000000001] 2))).upd hS8 hU8; clear cO fO zO; obtain ⟨cO, fO, zO⟩ := D8.X.out; obtain ⟨xh, hxh, cH, fH, _⟩ := D8.O.1.cellAt hz; clear hxh); go_wp2_with fail)))
      all_goals
        have D9 := D8.st0 y hy
        clear cO fO zO
        obtain ⟨cO, fO, zO⟩ := D9.X.out
        obtain ⟨cR, fR, zR⟩ := D9.R.out
        go_wp2
        refine bodyPost_ret (v := .agg #[.slice (some ⟨gb, 0, none⟩) m1 k1, .slice b2 m2 k2, .slice b3 m3 k3]) (by simp only [results, Try.results77]; go_simp) rfl ?_
        exact srcb_set D9.S D9.U D9.O hp (by omega) ⟨by simp; omega, by simp; omega, by simp; omega⟩
    · have hz2 : ¬ (0 : Int) < (m1 : Int) := by omega
      clear hn1 hz
      obtain ⟨cR, fR, zR⟩ := D3.R.out
      go_wp2
      refine bodyPost_ret (v := .agg #[.slice b1 m1 k1, .slice b2 m2 k2, .slice b3 m3 k3]) (by simp only [results, Try.results77]; go_simp) rfl ?_
      exact srcb_set D3.S D3.U D3.O hp (by omega) ⟨by omega, by omega, by omega⟩
  · have e0 : (x == 0) = false := by simp [c0]
    clear c0
    by_cases c1 : x = 1
    · subst c1
      obtain ⟨cO, fO, zO⟩ := D3.X.out
      have D4 := D3.bl (bl_drew (bl_refl w3))
      go_wp2_with fail
      go_region_law ((first | (go_simp; go_at_call 80; go_must (refine (samong_any (b := w3.heap.size) (cs := #[.int .i64 (-1), .int .i64 0, .int .i64 1000000000, .int .i64 1000000001]) ((D4.bl (bl_alloc (bl_refl _) (.cells #[.int .i64 (-1), .int .i64 0, .int .i64 1000000000, .int .i64 1000000001] 2))).S) (by omega) (Bx.new (b := w3.heap.size) _ _ _ rfl) (by have := D3.R.out.2.2; have := D3.pw; omega) (by omega) (by omega) (fun i hi => by rcases (show i = 0 ∨ i = 1 ∨ i = 2 ∨ i = 3 by omega) with rfl | rfl | rfl | rfl <;> exact ⟨_, rfl, by unfold R64; omega⟩)).mono ?_; rintro e w8 ⟨y, rfl, hy, hS8, hU8⟩; have D8 := (D4.bl (bl_alloc (bl_refl _) (.cells #[.int .i64 (-1), .int .i64 0, .int .i64 1000000000, .int .i64 1000000001] 2))).upd hS8 hU8; clear cO fO zO; obtain ⟨cO, fO, zO⟩ := D8.X.out); go_wp2_with fail) | (refine step_append_i1 (by rfl) _ _ (by rfl) (w.heap.size + 1) _ s.H (by rfl) ((D8.bl (bl_alloc (bl_refl _) _)).O.1) w8.heap.size (y) hy (by rfl) (Bx.new (b := w8.heap.size) w8 #[.int .i64 (y)] 2 (by rfl)) (by omega) (by have := D8.R.out.2.2; simp; omega) ?_; intro v' wn ho hg hloc; obtain ⟨a1, n1, rfl, _⟩ := ho.form; have A0 := (D8.bl (bl_alloc (bl_refl _) (.cells #[.int .i64 (y)] 2))).app0 ho hg hloc (Nat.le_refl _); clear cO fO zO; obtain ⟨cO, fO, zO⟩ := A0.X.out; clear A0)))
      all_goals
        have hln : (s.H ++ [y]).length = s.H.length + 1 := by simp
        rw [hln] at ho hloc
        have A := (D8.bl (bl_alloc (bl_refl _) (.cells #[.int .i64 y] 2))).app0 ho hg hloc (Nat.le_refl _)
        clear ho hg hloc
        have D9 := A.D
        clear A cO fO zO
        obtain ⟨cO, fO, zO⟩ := D9.X.out
        obtain ⟨cR, fR, zR⟩ := D9.R.out
        go_wp2
        refine bodyPost_ret (v := .agg #[.slice a1 (s.H.length + 1) n1, .slice b2 m2 k2, .slice b3 m3 k3]) (by simp only [results, Try.results77]; go_simp) rfl ?_
        exact srcb_set D9.S D9.U D9.O hp (by omega) ⟨by simp; omega, by simp; omega, by simp; omega⟩
    · have e1 : (x == 1) = false := by simp [c1]
      clear c1
      by_cases c2 : x = 2
      · subst c2
        obtain ⟨cO, fO, zO⟩ := D3.X.out
        have D4 := D3.bl (bl_drew (bl_refl w3))
        go_wp2_with fail
        go_cut [33, 34, 35, 36, 37, 38, 39, 40] from 33 to 40 (fun _ _ _ _ _ _ _ _ wx => ∃ (pp' : Value) (s' : Src), Hid (Dr w0 w wx p (N + 230) bO (.slice b1 m1 k1) pp' (.slice b3 m3 k3) s') ∧ s'.H.length ≤ 2000000 ∧ s'.P.length ≤ 2000001 ∧ s'.G.length ≤ 2000000)
        case first =>
          go_region_law ((first | (go_simp; go_at_call 80; go_must (refine (samong_any (b := w3.heap.size) (cs := #[.int .i64 0, .int .i64 1, .int .i64 1000000, .int .i64 1000001]) ((D4.bl (bl_alloc (bl_refl _) (.cells #[.int .i64 0, .int .i64 1, .int .i64 1000000, .int .i64 1000001] 2))).S) (by omega) (Bx.new (b := w3.heap.size) _ _ _ rfl) (by have := D3.R.out.2.2; have := D3.pw; omega) (by omega) (by omega) (fun i hi => by rcases (show i = 0 ∨ i = 1 ∨ i = 2 ∨ i = 3 by omega) with rfl | rfl | rfl | rfl <;> exact ⟨_, rfl, by unfold R64; omega⟩)).mono ?_; rintro e w8 ⟨y, rfl, hy, hS8, hU8⟩; have D8 := (D4.bl (bl_alloc (bl_refl _) (.cells #[.int .i64 0, .int .i64 1, .int .i64 1000000, .int .i64 1000001] 2))).upd hS8 hU8; clear cO fO zO; obtain ⟨cO, fO, zO⟩ := D8.X.out); go_wp2_with fail) | (refine step_append_i1 (by rfl) _ _ (by rfl) (w.heap.size + 1) _ s.P (by rfl) ((D8.bl (bl_alloc (bl_refl _) _)).O.2.1) w8.heap.size (y) hy (by rfl) (Bx.new (b := w8.heap.size) w8 #[.int .i64 (y)] 2 (by rfl)) (by omega) (by have := D8.R.out.2.2; simp; omega) ?_; intro v' wn ho hg hloc; obtain ⟨a1, n1, rfl, _⟩ := ho.form; have A0 := (D8.bl (bl_alloc (bl_refl _) (.cells #[.int .i64 (y)] 2))).app1 ho hg hloc (Nat.le_refl _); clear cO fO zO; obtain ⟨cO, fO, zO⟩ := A0.X.out; clear A0)))
          all_goals
            have hln : (s.P ++ [y]).length = s.P.length + 1 := by simp
            rw [hln] at ho hloc
            have A := (D8.bl (bl_alloc (bl_refl _) (.cells #[.int .i64 y] 2))).app1 ho hg hloc (Nat.le_refl _)
            clear ho hg hloc
            go_wp2_with fail
            go_meet
            exact ⟨_, _, Lib.hid (A.D.more (by omega)), l1, by simp; omega, l3⟩
        case rest =>
          obtain ⟨pp', s', hD, l1', l2', l3'⟩ := hcut
          clear D3 D4 cO fO zO l1 l2 l3
          obtain ⟨w9, rfl⟩ : ∃ x : World, x = wc := ⟨_, rfl⟩
          have D := hD.out
          clear hD
          obtain ⟨_, ⟨b2', m2', k2', rfl⟩, _⟩ := D.O.shape
          obtain ⟨cO, fO, zO⟩ := D.X.out
          have DD := D.bl (bl_drew (bl_refl w9))
          go_wp2_with fail
          go_region_law ((first | (go_simp; go_at_call 80; go_must (refine (samong_any (b := w9.heap.size) (cs := #[.int .i64 (-1), .int .i64 0, .int .i64 1000000, .int .i64 1000001]) ((DD.bl (bl_alloc (bl_refl _) (.cells #[.int .i64 (-1), .int .i64 0, .int .i64 1000000, .int .i64 1000001] 2))).S) (by omega) (Bx.new (b := w9.heap.size) _ _ _ rfl) (by have := D.R.out.2.2; have := D.pw; omega) (by omega) (by omega) (fun i hi => by rcases (show i = 0 ∨ i = 1 ∨ i = 2 ∨ i = 3 by omega) with rfl | rfl | rfl | rfl <;> exact ⟨_, rfl, by unfold R64; omega⟩)).mono ?_; rintro e w8 ⟨y, rfl, hy, hS8, hU8⟩; have D8 := (DD.bl (bl_alloc (bl_refl _) (.cells #[.int .i64 (-1), .int .i64 0, .int .i64 1000000, .int .i64 1000001] 2))).upd hS8 hU8; clear cO fO zO; obtain ⟨cO, fO, zO⟩ := D8.X.out); go_wp2_with fail) | (refine step_append_i1 (by rfl) _ _ (by rfl) (w.heap.size + 1) _ s'.G (by rfl) ((D8.bl (bl_alloc (bl_refl _) _)).O.2.2.1) w8.heap.size (y) hy (by rfl) (Bx.new (b := w8.heap.size) w8 #[.int .i64 (y)] 2 (by rfl)) (by omega) (by have := D8.R.out.2.2; simp; omega) ?_; intro v' wn ho hg hloc; obtain ⟨a1, n1, rfl, _⟩ := ho.form; have A0 := (D8.bl (bl_alloc (bl_refl _) (.cells #[.int .i64 (y)] 2))).app2 ho hg hloc (Nat.le_refl _); clear cO fO zO; obtain ⟨cO, fO, zO⟩ := A0.X.out; clear A0)))
          all_goals
            have hln : (s'.G ++ [y]).length = s'.G.length + 1 := by simp
            rw [hln] at ho hloc
            have A := (D8.bl (bl_alloc (bl_refl _) (.cells #[.int .i64 y] 2))).app2 ho hg hloc (Nat.le_refl _)
            clear ho hg hloc
            have D9 := A.D
            clear A cO fO zO
            obtain ⟨cO, fO, zO⟩ := D9.X.out
            obtain ⟨cR, fR, zR⟩ := D9.R.out
            go_wp2
            refine bodyPost_ret (v := .agg #[.slice b1 m1 k1, .slice b2' m2' k2', .slice a1 (s'.G.length + 1) n1]) (by simp only [results, Try.results77]; go_simp) rfl ?_
            exact srcb_set D9.S D9.U D9.O hp (by omega) ⟨by show s'.H.length ≤ _; omega, by show s'.P.length ≤ _; omega, by simp; omega⟩
      · have e2 : (x == 2) = false := by simp [c2]
        clear c2
        by_cases c3 : x = 3
        · subst c3
          obtain ⟨cO, fO, zO⟩ := D3.X.out
          have hR3 := D3.R.out.2.2
          have hbn : bO ≠ w.heap.size := by have := D3.bb; omega
          have hbn2 : ¬ w.heap.size = bO := by omega
          go_wp2_with (at_builtin; refine wpList_append_one rfl _ _ rfl (w.heap.size + 1) _ s.G (by rfl) D3.O.2.2.1 1 (by unfold R64; omega) (by first | rfl | simp [Act.eval]) (by omega) (by omega) ?_; intro v' wn ho hg hloc; obtain ⟨a1, n1, rfl, _⟩ := ho.form; have A0 := D3.app2 ho hg hloc (Nat.le_succ _); clear cO fO zO; obtain ⟨cO, fO, zO⟩ := A0.X.out; clear A0; have xRn := D3.R.grownApartF hg (fun e => by have := (D3.O.2.2.1.lt _ e).1; omega); obtain ⟨cR, fR, zR⟩ := xRn.out)
          have hln : (s.G ++ [1]).length = s.G.length + 1 := by simp
          rw [hln] at ho hloc
          have A := D3.app2 ho hg hloc (Nat.le_succ _)
          clear ho hg hloc
          have D9 := A.D
          try go_wp2
          refine bodyPost_ret (v := .agg #[.slice b1 m1 k1, .slice b2 m2 k2, .slice a1 (s.G.length + 1) n1]) (by simp only [results, Try.results77]; go_simp) rfl ?_
          exact srcb_set D9.S D9.U D9.O hp (by omega) ⟨by show s.H.length ≤ _; omega, by show s.P.length ≤ _; omega, by simp; omega⟩
        · have e3 : (x == 3) = false := by simp [c3]
          clear c3
          by_cases c4 : x = 4
          · subst c4
            obtain ⟨cR, fR, zR⟩ := D3.R.out
            go_wp2
            refine bodyPost_ret (v := .agg #[.slice none 0 0, .slice none 0 0, .slice none 0 0]) (by simp only [results, Try.results77]; go_simp) rfl ?_
            exact srcb_set D3.S D3.U (ownS_nilK _ _) hp (by omega) ⟨by simp, by simp, by simp⟩
          · have e4 : (x == 4) = false := by simp [c4]
            clear c4
            by_cases c5 : x = 5
            · subst c5
              obtain ⟨cO, fO, zO⟩ := D3.X.out
              have D4 := D3.hd0
              go_wp2_with fail
              generalize (w3.setCell ⟨bO, 0, none⟩ (.slice (some ⟨w3.heap.size, 0, none⟩) 0 0)).alloc (.cells #[] 2) = w4 at *
              clear cO fO zO
              refine (dpick_any D4.S (by omega) (by omega)).mono ?_
              rintro e w5 ⟨r, rfl, r0, r1, hS5, hU5⟩
              have D5 := D4.upd hS5 hU5
              clear D4 hS5 hU5
              go_wp2_with fail
              go_loopw [4] (fun s4 wr => ∃ (c : Int) (h : Value) (xs : List Int), s4 = .int .i64 c ∧ 0 ≤ c ∧ c ≤ 31 ∧ Dr w0 w wr p (N + 240) bO h (.slice b2 m2 k2) (.slice b3 m3 k3) ⟨xs, s.P, s.G⟩ ∧ xs.length ≤ 31 - c.toNat) (fun s4 _ => (intOf s4).toNat)
              case atStart => exact ⟨30 + r, _, [], by go_num, by omega, by omega, D5.more (by omega), by simp⟩
              case round =>
                clear D5 D3
                obtain ⟨c, h, xs, rfl, q0, q31, D, lx⟩ := hrel
                obtain ⟨⟨d1, d2, d3, rfl⟩, _, _⟩ := D.O.shape
                obtain ⟨cO, fO, zO⟩ := D.X.out
                by_cases qc : 0 < c
                · have hRr := D.R.out.2.2
                  go_wp2_with (at_builtin; refine wpList_append_one rfl _ _ rfl (w.heap.size + 1) _ xs (by rfl) D.O.1 1 (by unfold R64; omega) (by first | rfl | simp [Act.eval]) (by omega) (by omega) ?_; intro v' wn ho hg hloc; obtain ⟨a1, n1, rfl, _⟩ := ho.form; have A0 := D.app0 ho hg hloc (Nat.le_succ _); clear cO fO zO; obtain ⟨cO, fO, zO⟩ := A0.X.out; clear A0)
                  have hln : (xs ++ [1]).length = xs.length + 1 := by simp
                  rw [hln] at ho hloc
                  have A := D.app0 (s := ⟨xs, s.P, s.G⟩) ho hg hloc (Nat.le_succ _)
                  clear ho hg hloc
                  go_wp2
                  go_roundw
                  case rel => exact ⟨c - 1, _, _, by go_num, by omega, by omega, A.D, by simp; omega⟩
                  case measure => simp only [intOf]; omega
                · obtain ⟨cR, fR, zR⟩ := D.R.out
                  go_wp2
                  refine bodyPost_ret (v := .agg #[.slice d1 d2 d3, .slice b2 m2 k2, .slice b3 m3 k3]) (by simp only [results, Try.results77]; go_simp) rfl ?_
                  exact srcb_set D.S D.U D.O hp (by omega) ⟨by show xs.length ≤ _; omega, by show s.P.length ≤ _; omega, by show s.G.length ≤ _; omega⟩
            · have e5 : (x == 5) = false := by simp [c5]
              clear c5
              obtain ⟨cO, fO, zO⟩ := D3.X.out
              obtain ⟨cR, fR, zR⟩ := D3.R.out
              go_wp2
              refine bodyPost_ret (v := .agg #[.slice b1 m1 k1, .slice b2 m2 k2, .slice b3 m3 k3]) (by simp only [results, Try.results77]; go_simp) rfl ?_
              exact srcb_set D3.S D3.U D3.O hp (by omega) ⟨by omega, by omega, by omega⟩

end Go.Proofs.Ytgkelemfbmmgnaa

/- FirstTerms: the program and the reference give the same. No condition. -/
namespace Go.Proofs.Ytgkelemfbmmgnaa
open Go.RowKit
set_option linter.unusedVariables false
set_option linter.unusedSimpArgs false

theorem ivalid_eqF {h p g : Value} {s : Src} {b : Bool} (e : okSrc s = b) (w : World) (ha : SlS w h p g s) : Calls Try.prog 39 #[.agg #[h, p, g]] w fun e w' => e = .returned (.bool b) ∧ Bl w w' := e ▸ ivalid_any h p g s w ha
theorem svalid_eqF {h p g : Value} {s : Src} {b : Bool} (e : okSrc s = b) (w : World) (x : Nat) (ha : SlS w h p g s) (hx : Bx w x #[h, p, g]) : Calls Try.prog 50 #[.pointer (some ⟨x, 0, none⟩)] w fun e w' => e = .returned (.bool b) ∧ Bl w w' := e ▸ svalid_any h p g s w x ha hx
theorem within_eqF {n lo hi : Int} {b : Bool} (h : inB n lo hi = b) (w : World) : Calls Try.prog 67 #[.int .i64 n, .int .i64 lo, .int .i64 hi] w fun e w' => e = .returned (.bool b) ∧ w = w' := h ▸ within_any n lo hi w
theorem in_eqF {n lo hi : Int} {b : Bool} (h : inB n lo hi = b) (w : World) : Calls Try.prog 73 #[.int .i64 n, .int .i64 lo, .int .i64 hi] w fun e w' => e = .returned (.bool b) ∧ w = w' := h ▸ in_any n lo hi w
theorem ret_li {v : Value} {xs : List Int} {r : List Int × Int} {c : Int} (h : r = (xs, c)) : Ending.returned (.tuple #[v, .int .i64 c]) = .returned (.tuple #[v, .int .i64 r.2]) := by rw [h]
noncomputable def firstF (s : Src) (m : Int) : List Int × Int := if okSrc s then (if inB m 0 1000 then (firstL s m.toNat, 0) else ([], 2)) else ([], 1)
theorem firstF_len (s : Src) (m : Int) : (firstF s m).1.length ≤ 1048576 := by
  unfold firstF
  split
  · split
    · rename_i h
      have := inB_iff.1 h
      have := firstG_len s m.toNat 0
      simp [firstL]
      omega
    · simp
  · simp

end Go.Proofs.Ytgkelemfbmmgnaa

/- ConvergentAt: the program and the reference give the same. No condition. -/
namespace Go.Proofs.Ytgkelemfbmmgnaa
open Go.RowKit
set_option linter.unusedVariables false
set_option linter.unusedSimpArgs false

theorem termP_60 {s : Src} (ok : OkSrc s) (k : Nat) (hk : k ≤ 60) : -1000000000 ≤ (termP s k).1 ∧ (termP s k).1 ≤ 1000000000 := by
  unfold termP
  split
  · rename_i h
    have e : s.H[k]? = some s.H[k] := List.getElem?_eq_getElem h
    have := ok.hd k _ e
    unfold lowAt at this
    simp [e]
    split at this <;> omega
  · split
    · simp
    · rename_i h h2
      have hm : (k - s.H.length) % s.P.length < s.P.length := Nat.mod_lt _ (by omega)
      have hm2 : (k - s.H.length) % s.P.length < s.G.length := by rw [ok.gp]; exact hm
      have e1 : s.P[(k - s.H.length) % s.P.length]? = some s.P[(k - s.H.length) % s.P.length] := List.getElem?_eq_getElem hm
      have e2 : s.G[(k - s.H.length) % s.P.length]? = some s.G[(k - s.H.length) % s.P.length] := List.getElem?_eq_getElem hm2
      have b1 := ok.per _ _ e1
      have b2 := ok.gr _ _ e2
      have hq : (k - s.H.length) / s.P.length ≤ k := Nat.le_trans (Nat.div_le_self _ _) (by omega)
      simp only [List.getD_eq_getElem?_getD, e1, e2, Option.getD_some]
      generalize (k - s.H.length) / s.P.length = Q at *
      have hp := prod_bd (Q : Int) s.G[(k - s.H.length) % s.P.length] 60 1000000 (by omega) (by omega) b2.1 b2.2
      omega
theorem firstG_bd {s : Src} (ok : OkSrc s) (n : Nat) : ∀ k, n + k ≤ 60 → ∀ x ∈ firstG s n k, -1000000000 ≤ x ∧ x ≤ 1000000000 := by
  induction n with
  | zero => intro k _ x hx; simp [firstG] at hx
  | succ n ih =>
    intro k hk x hx
    rw [firstG] at hx
    split at hx
    · rcases List.mem_cons.1 hx with rfl | hx
      · exact termP_60 ok k (by omega)
      · exact ih (k + 1) (by omega) x hx
    · cases hx
theorem ret_fi {r : (Int × Int) × Int} {x y c : Int} (h : r = ((x, y), c)) : Ending.returned (.tuple #[.agg #[.int .i64 x, .int .i64 y], .int .i64 c]) = .returned (.tuple #[.agg #[.int .i64 r.1.1, .int .i64 r.1.2], .int .i64 r.2]) := by subst h; rfl
/-- The element of a list of fractions, or a code. -/
def pickF (o : Option (List (Int × Int))) (k : Nat) : (Int × Int) × Int := match o with | none => ((0, 0), 5) | some fs => (fs.getD k (0, 0), 0)
noncomputable def convAtF (s : Src) (k : Int) : (Int × Int) × Int :=
  if okSrc s then (if inB k 0 59 then (if (firstL s (k.toNat + 1)).length ≤ k.toNat then ((0, 0), 3) else pickF (convL (firstL s (k.toNat + 1))) k.toNat) else ((0, 0), 2)) else ((0, 0), 1)

end Go.Proofs.Ytgkelemfbmmgnaa

/- Draws for the laws on floors of sources. Each theorem names its conditions. -/
namespace Go.Proofs.Ytgkelemfbmmgnaa
open Go.RowKit
set_option linter.unusedVariables false
set_option linter.unusedSimpArgs false

theorem f6big_any {w : World} {v : Value} {bs : List Int} (h : SlB w v bs) : Calls Try.prog 5 #[v] w fun e w' => e = .returned (.bool (decide (4096 < bs.length))) ∧ w = w' := by
  have hl := h.len
  obtain ⟨a, c, rfl, _⟩ := h.form
  by_cases q : 4096 < bs.length
  · have q2 : (4096 : Int) < (bs.length : Int) := by omega
    have HR := Lib.hid (show true = decide (4096 < bs.length) from (decide_eq_true q).symm)
    clear q
    go_enter Try.func5, Try.ntmps5
    go_wp2
    go_ret
    exact ⟨ret_bool HR.out, rfl⟩
  · have q2 : ¬ (4096 : Int) < (bs.length : Int) := by omega
    have HR := Lib.hid (show false = decide (4096 < bs.length) from (decide_eq_false q).symm)
    clear q
    go_enter Try.func5, Try.ntmps5
    go_wp2
    go_ret
    exact ⟨ret_bool HR.out, rfl⟩
def Lens (s : Src) : Prop := s.H.length ≤ 3000000 ∧ s.P.length ≤ 3000000 ∧ s.G.length ≤ 3000000
theorem ownS_set2 {w1 : World} {B b : Nat} {h pp g : Value} {s : Src} (O : OwnS w1 B h pp g s) (hb : ∀ k, blks h pp g k → k ≠ b) (v0 v1 : Value) : OwnS ((w1.setCell ⟨b, 0, none⟩ v0).setCell ⟨b, 1, none⟩ v1) B h pp g s := by
  have st : ∀ {W : World} (j : Nat) (v : Value), OwnS W B h pp g s → OwnS (W.setCell ⟨b, j, none⟩ v) B h pp g s := fun j v o => o.only2 (only_set _ _ _) (fun k hk e => hb k hk (by simpa using e))
  exact st 1 _ (st 0 _ O)
def FlO (w : World) (e : Ending) (w' : World) : Prop := ∃ h pp g s, e = .returned (.agg #[h, pp, g]) ∧ OwnS w' w.heap.size h pp g s ∧ Bl w w'
def NeO (w : World) (e : Ending) (w' : World) : Prop := ∃ h pp g s, ∃ m : Int, e = .returned (.tuple #[.agg #[h, pp, g], .int .i64 m]) ∧ OwnS w' w.heap.size h pp g s ∧ Bl w w'
def CfO (w : World) (e : Ending) (w' : World) : Prop := ∃ h pp g s, ∃ n d m : Int, e = .returned (.tuple #[.agg #[h, pp, g], .agg #[.int .i64 n, .int .i64 d], .int .i64 m]) ∧ OwnS w' w.heap.size h pp g s ∧ Bl w w'
theorem ownS_set3 {w1 : World} {B b : Nat} {h pp g : Value} {s : Src} (O : OwnS w1 B h pp g s) (hb : ∀ k, blks h pp g k → k ≠ b) (v0 v1 v2 : Value) : OwnS (((w1.setCell ⟨b, 0, none⟩ v0).setCell ⟨b, 1, none⟩ v1).setCell ⟨b, 2, none⟩ v2) B h pp g s := by
  have st : ∀ {W : World} (j : Nat) (v : Value), OwnS W B h pp g s → OwnS (W.setCell ⟨b, j, none⟩ v) B h pp g s := fun j v o => o.only2 (only_set _ _ _) (fun k hk e => hb k hk (by simpa using e))
  exact st 2 _ (st 1 _ (st 0 _ O))
end Go.Proofs.Ytgkelemfbmmgnaa

