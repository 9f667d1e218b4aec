/- Some of the texts of this claim, joined in one file: AppV, SdS. -/
import Derived.Test.YtgkelemfbmmgnaaMO4
import Derived.Test.YtgkelemfbmmgnaaAppU
import Derived.Test.YtgkelemfbmmgnaaOnly
import Derived.Test.YtgkelemfbmmgnaaMO2
/- Lists of sources of the call's own. Each theorem names its conditions. -/
namespace Go.Proofs.Ytgkelemfbmmgnaa
open Go.RowKit
set_option linter.unusedVariables false
set_option linter.unusedSimpArgs false

/-- The three values of a source. -/
abbrev V3 := Value × Value × Value
def cellsV : List V3 → List Value
  | [] => []
  | f :: fs => f.1 :: f.2.1 :: f.2.2 :: cellsV fs
theorem cellsV_len (fs : List V3) : (cellsV fs).length = fs.length * 3 := by
  induction fs with
  | nil => rfl
  | cons f fs ih => simp [cellsV, ih]; omega
theorem cellsV_app (fs gs : List V3) : cellsV (fs ++ gs) = cellsV fs ++ cellsV gs := by
  induction fs with
  | nil => rfl
  | cons f fs ih => simp [cellsV, ih]
theorem cellsV_get (fs : List V3) : ∀ (i : Nat) (p d q : Value), fs[i]? = some (p, d, q) → (cellsV fs)[i * 3]? = some p ∧ (cellsV fs)[i * 3 + 1]? = some d ∧ (cellsV fs)[i * 3 + 2]? = some q := by
  induction fs with
  | nil => intro i p d q h; simp at h
  | cons f fs ih =>
    intro i p d q h
    cases i with
    | zero => simp at h; subst h; exact ⟨rfl, rfl, rfl⟩
    | succ i =>
      have := ih i p d q (by simpa using h)
      rw [show (i + 1) * 3 = i * 3 + 1 + 1 + 1 by omega]
      exact this
/-- A list of sources in the call's own row; each source lies apart from the row. -/
structure LsV (w : World) (B : Nat) (v : Value) (vs : List V3) (ss : List Src) : Prop where
  row : w.ownsRow B 26 3 v vs.length (cellsV vs)
  len : vs.length = ss.length
  els : ∀ (i : Nat) (f : V3) (s : Src), vs[i]? = some f → ss[i]? = some s → SlS w f.1 f.2.1 f.2.2 s ∧ ∀ k, blks f.1 f.2.1 f.2.2 k → v.ownBlock ≠ some k ∧ B ≤ k ∧ k < w.heap.size
theorem slS_onlyV {w w' : World} {h p g : Value} {s : Src} {S : Nat → Prop} (x : SlS w h p g s) (ho : Only w w' S) (hn : ∀ k, blks h p g k → ¬ S k) : SlS w' h p g s :=
  ⟨x.1.only ho (fun k _ e => hn k (.inl e)), x.2.1.only ho (fun k _ e => hn k (.inr (.inl e))), x.2.2.only ho (fun k _ e => hn k (.inr (.inr e)))⟩
theorem LsV.made (w : World) {B : Nat} (hB : B ≤ w.heap.size) : LsV (w.alloc (.cells #[] 26)) B (.slice (some ⟨w.heap.size, 0, none⟩) 0 0) [] [] :=
  ⟨World.ownsRow_made w #[] 0 hB (by simp [maxLen]) (by simp), rfl, by simp⟩
theorem LsV.only {w w' : World} {B : Nat} {v : Value} {vs : List V3} {ss : List Src} {S : Nat → Prop} (x : LsV w B v vs ss) (ho : Only w w' S) (hn : ∀ k, B ≤ k → k < w.heap.size → ¬ S k) : LsV w' B v vs ss := by
  obtain ⟨⟨h1, h2⟩, h3, h4⟩ := x
  refine ⟨⟨h1, ?_⟩, h3, fun i f s hf hs => ?_⟩
  · rcases h2 with h2 | ⟨g, cap, cur, rfl, hg, hh, r⟩
    · exact .inl h2
    · have hl := (Array.getElem?_eq_some_iff.1 hh).1
      exact .inr ⟨g, cap, cur, rfl, hg, by rw [ho.block g hl (hn g hg hl)]; exact hh, r⟩
  · obtain ⟨a, b⟩ := h4 i f s hf hs
    refine ⟨slS_onlyV a ho (fun k hk => hn k (b k hk).2.1 (b k hk).2.2), fun k hk => ⟨(b k hk).1, (b k hk).2.1, ?_⟩⟩
    have := ho.size
    have := (b k hk).2.2
    omega
theorem LsV.below {w w' : World} {B : Nat} {v : Value} {vs : List V3} {ss : List Src} (x : LsV w B v vs ss) (hb : Bl w w') : LsV w' B v vs ss :=
  x.only (Only.of_below hb (fun _ => False)) (fun _ _ _ => id)
theorem LsV.form {w : World} {B : Nat} {v : Value} {vs : List V3} {ss : List Src} (x : LsV w B v vs ss) : ∃ a c, v = .slice a ss.length c ∧ ss.length ≤ c := by
  obtain ⟨⟨_, h2⟩, h3, _⟩ := x
  rcases h2 with ⟨rfl, h2⟩ | ⟨g, cap, cur, rfl, hg, hh, hn, _⟩
  · exact ⟨none, 0, by rw [← h3, h2], by omega⟩
  · exact ⟨_, _, by rw [← h3], by omega⟩
theorem LsV.slL {w : World} {B : Nat} {v : Value} {vs : List V3} {ss : List Src} (x : LsV w B v vs ss) : SlL w v ss := by
  obtain ⟨hr, h3, h4⟩ := x
  rcases hr.2 with ⟨rfl, h2⟩ | ⟨g, cap, cur, rfl, hg, hh, hn, hm, hs, ht⟩
  · have : ss.length = 0 := by omega
    obtain rfl := List.eq_nil_of_length_eq_zero this
    exact ⟨none, 0, rfl, Nat.le_refl _, by simp [maxLen], fun _ => rfl, by simp⟩
  · refine ⟨_, cap, by rw [h3], by omega, hm, by simp, fun i s hs => ?_⟩
    have hi : i < vs.length := by have := (List.getElem?_eq_some_iff.1 hs).1; omega
    obtain ⟨⟨p, d, q⟩, hx⟩ : ∃ f, vs[i]? = some f := ⟨_, List.getElem?_eq_getElem hi⟩
    have e := cellsV_get vs i p d q hx
    refine ⟨g, 0, p, d, q, rfl, ?_, (h4 i _ s hx hs).1⟩
    rw [Nat.zero_add]
    exact ⟨(World.ownsRow.cellAt hr (i * 3) (by omega)).trans e.1, (World.ownsRow.cellAt hr (i * 3 + 1) (by omega)).trans e.2.1, (World.ownsRow.cellAt hr (i * 3 + 2) (by omega)).trans e.2.2⟩
theorem info_ssV : (Try.prog.info? 26).map (fun i => (i.zero, i.size, i.bytes)) = some (some (.agg #[.slice none 0 0, .slice none 0 0, .slice none 0 0]), 3, 72) := by kernel_rfl
/-- append(list, x): one source. -/
theorem wpList_append_sv {w : World} {ops : Array Oper} {rest : List Oper} {o : Oper} {a : Act} {Q : Exit → Act → World → Prop} (hgd : o.guard = none) (s x : Operand)
    (ho : o.op = .call { callee := .builtin .append, args := #[s, x], argTypes := #[31, 31] })
    (B : Nat) (v : Value) (vs : List V3) (ss : List Src) (hs : a.eval s = v) (hown : LsV w B v vs ss) (h p g : Value) (s1 : Src) (hS : SlS w h p g s1) (hk2 : ∀ k, blks h p g k → v.ownBlock ≠ some k ∧ B ≤ k ∧ k < w.heap.size)
    (hx : a.eval x = .slice (some ⟨w.heap.size, 0, none⟩) 1 1) (hl : ss.length ≤ 1000000) (hB : B ≤ w.heap.size)
    (hh : ∀ v' w', LsV w' B v' (vs ++ [(h, p, g)]) (ss ++ [s1]) → w.grownBy w' v.ownBlock → (∀ k, v.ownBlock ≠ some k → k < w.heap.size → v'.ownBlock ≠ some k) → wpList Try.prog ops Q rest (a.put o.dst v') w') :
    wpList Try.prog ops Q (o :: rest) a (w.alloc (.cells #[h, p, g] 26)) := by
  obtain ⟨i0, hi, hz0, hz1, hz2⟩ := info_parts info_ssV
  have hlen := hown.len
  have hS0 := hS
  obtain ⟨a1, c1, rfl, _⟩ := hS0.1
  obtain ⟨a2, c2, rfl, _⟩ := hS0.2.1
  obtain ⟨a3, c3, rfl, _⟩ := hS0.2.2
  refine wpList_append_lies _ hgd s x 31 ho B 26 i0 (.agg #[.slice none 0 0, .slice none 0 0, .slice none 0 0]) 3 72 Try.underlying31 hi hz0 hz1 hz2 rfl (by decide) v vs.length (cellsV vs) hs (hown.below (bl_alloc (bl_refl _) _)).row ⟨w.heap.size, 0, none⟩ 1 1 (cellsV [(.slice a1 s1.H.length c1, .slice a2 s1.P.length c2, .slice a3 s1.G.length c3)]) hx (by simp [cellsV]) (fun j u hu => ?_) ?_ (by omega) (by unfold maxLen; omega) (by omega) (by simp; omega) _ rfl ?_
  · match j, hu with
    | 0, hu => simp [cellsV] at hu; subst hu; simp [Addr.add]
    | 1, hu => simp [cellsV] at hu; subst hu; simp [Addr.add]
    | 2, hu => simp [cellsV] at hu; subst hu; simp [Addr.add]
  · intro u hu
    simp only [cellsV, List.mem_cons, List.not_mem_nil, or_false] at hu
    rcases hu with rfl | rfl | rfl <;> rfl
  · intro g' c' w' r1 r2 r3 r4
    have g0 : w.grownBy w' v.ownBlock := ⟨r2.os, r2.tape, r2.output, Nat.le_trans (by simp) r2.size, fun k hk hne => (r2.block k (by simp; omega) hne).trans (heap_alloc_old w _ hk)⟩
    have ho1 := Only.of_grown g0 (S := fun k => v.ownBlock = some k) (fun k e => e)
    have hz := g0.size
    have nb : ∀ k, v.ownBlock ≠ some k → k < w.heap.size → (Value.slice (some ⟨g', 0, none⟩) (vs.length + 1) c').ownBlock ≠ some k := fun k h1 h2 e => by
      have e2 : g' = k := by simpa [Value.ownBlock] using e
      rcases r3 with r3 | r3
      · exact h1 (by rw [r3, e2])
      · simp at r3; omega
    refine hh _ w' ⟨by rw [cellsV_app, List.length_append]; exact r1, by simp [hlen], fun i f s hf hs => ?_⟩ g0 nb
    by_cases hi2 : i < vs.length
    · rw [List.getElem?_append_left hi2] at hf
      rw [List.getElem?_append_left (by omega)] at hs
      obtain ⟨q1, q2⟩ := hown.els i f s hf hs
      exact ⟨slS_onlyV q1 ho1 (fun k hk => (q2 k hk).1), fun k hk => ⟨nb k (q2 k hk).1 (q2 k hk).2.2, (q2 k hk).2.1, by have := (q2 k hk).2.2; omega⟩⟩
    · rw [List.getElem?_append_right (by omega)] at hf
      rw [List.getElem?_append_right (by omega)] at hs
      have hi3 : i - vs.length = 0 := by
        rcases Nat.eq_zero_or_pos (i - vs.length) with q | q
        · exact q
        · rw [List.getElem?_eq_none (by simp; omega)] at hf; cases hf
      rw [hi3] at hf
      rw [show i - ss.length = 0 by omega] at hs
      simp at hf hs
      subst hf hs
      exact ⟨slS_onlyV hS ho1 (fun k hk => (hk2 k hk).1), fun k hk => ⟨nb k (hk2 k hk).1 (hk2 k hk).2.2, (hk2 k hk).2.1, by have := (hk2 k hk).2.2; omega⟩⟩

end Go.Proofs.Ytgkelemfbmmgnaa

/- Draws of lists of sources. Each theorem names its conditions. -/
namespace Go.Proofs.Ytgkelemfbmmgnaa
open Go.RowKit
set_option linter.unusedVariables false
set_option linter.unusedSimpArgs false

/-- A source of choices p and a list of sources of the call's own. -/
structure Sm (w wr : World) (p N : Nat) (v : Value) (vs : List V3) (ss : List Src) : Prop where
  S : SrcD w wr p N
  L : LsV wr (p + 1) v vs ss
theorem Sm.upd {w wr wn : World} {p N M : Nat} {v : Value} {vs : List V3} {ss : List Src} (D : Sm w wr p N v vs ss) (hS : SrcD w wn p M) (hU : Upd wr wn p) : Sm w wn p M v vs ss :=
  ⟨hS, D.L.only (only_upd hU) (fun k h _ e => by omega)⟩
theorem Sm.bl {w wr wn : World} {p N : Nat} {v : Value} {vs : List V3} {ss : List Src} (D : Sm w wr p N v vs ss) (hb : Bl wr wn) : Sm w wn p N v vs ss :=
  ⟨D.S.below hb, D.L.below hb⟩
theorem Sm.more {w wr : World} {p N M : Nat} {v : Value} {vs : List V3} {ss : List Src} (D : Sm w wr p N v vs ss) (h : N ≤ M) : Sm w wr p M v vs ss := ⟨D.S.more h, D.L⟩
theorem LsV.blkLt {w : World} {B : Nat} {v : Value} {vs : List V3} {ss : List Src} (x : LsV w B v vs ss) : ∀ k, v.ownBlock = some k → B ≤ k ∧ k < w.heap.size := World.ownsRow.lt x.row
theorem Sm.app {w wr wn : World} {p N : Nat} {v v' : Value} {vs vs' : List V3} {ss ss' : List Src} (D : Sm w wr p N v vs ss) (hL : LsV wn (p + 1) v' vs' ss') (hg : wr.grownBy wn v.ownBlock) : Sm w wn p N v' vs' ss' := by
  have hp := D.S.out.1
  refine ⟨D.S.only (Only.of_grown hg (S := fun k => v.ownBlock = some k) (fun k e => e)) (fun e => ?_) (fun k e => ?_), hL⟩
  · have := (D.L.blkLt _ e).1; omega
  · have := (D.L.blkLt _ e).1; omega
theorem Sm.made {w wr : World} {p N : Nat} (S : SrcD w wr p N) : Sm w (wr.alloc (.cells #[] 26)) p N (.slice (some ⟨wr.heap.size, 0, none⟩) 0 0) [] [] :=
  ⟨S.below (bl_alloc (bl_refl _) _), LsV.made wr (by have := S.out.2.1; omega)⟩
theorem ownS_blk {w W : World} {h pp g : Value} {s : Src} {v : Value} {vs : List V3} {ss : List Src} {C : Nat} (O : OwnS W (w.heap.size + 1) h pp g s) (L : LsV w C v vs ss) (hC : C ≤ w.heap.size + 1) : ∀ k, blks h pp g k → v.ownBlock ≠ some k ∧ C ≤ k ∧ k < W.heap.size := fun k hk => by
  have h1 := O.blk k hk
  exact ⟨fun e => by have := (L.blkLt k e).2; omega, by omega, h1.2⟩
/-- .. and a source in a box bX, that is appended over and over. -/
structure Sx (w wr : World) (p N bX : Nat) (h pp g : Value) (s : Src) (v : Value) (vs : List V3) (ss : List Src) : Prop where
  D : Sm w wr p N v vs ss
  X : Bx wr bX #[h, pp, g]
  A : SlS wr h pp g s
  K : ∀ k, blks h pp g k → v.ownBlock ≠ some k ∧ p + 1 ≤ k ∧ k < wr.heap.size
  nX : v.ownBlock ≠ some bX
  pX : p + 1 ≤ bX
theorem Sx.upd {w wr wn : World} {p N M bX : Nat} {h pp g : Value} {s : Src} {v : Value} {vs : List V3} {ss : List Src} (x : Sx w wr p N bX h pp g s v vs ss) (hS : SrcD w wn p M) (hU : Upd wr wn p) : Sx w wn p M bX h pp g s v vs ss :=
  ⟨x.D.upd hS hU, x.X.upd hU (by have := x.pX; omega), slS_onlyV x.A (only_upd hU) (fun k hk e => by have := (x.K k hk).2.1; omega), fun k hk => ⟨(x.K k hk).1, (x.K k hk).2.1, by have := (x.K k hk).2.2; have := hU.size; omega⟩, x.nX, x.pX⟩
theorem Sx.app {w wr wn : World} {p N bX : Nat} {h pp g : Value} {s : Src} {v v' : Value} {vs vs' : List V3} {ss ss' : List Src} (x : Sx w wr p N bX h pp g s v vs ss) (hL : LsV wn (p + 1) v' vs' ss') (hg : wr.grownBy wn v.ownBlock) (hnb : ∀ k, v.ownBlock ≠ some k → k < wr.heap.size → v'.ownBlock ≠ some k) : Sx w wn p N bX h pp g s v' vs' ss' := by
  have ho := Only.of_grown hg (S := fun k => v.ownBlock = some k) (fun k e => e)
  exact ⟨x.D.app hL hg, x.X.only ho x.nX, slS_onlyV x.A ho (fun k hk => (x.K k hk).1), fun k hk => ⟨hnb k (x.K k hk).1 (x.K k hk).2.2, (x.K k hk).2.1, by have := (x.K k hk).2.2; have := hg.size; omega⟩, hnb bX x.nX x.X.out.2.2, x.pX⟩
theorem Sx.made {w w6 w7 : World} {p N : Nat} {h pp g : Value} {s : Src} (S : SrcD w w7 p N) (O : OwnS w7 (w6.heap.size + 1) h pp g s) (hp : p < w6.heap.size) (hz : w6.heap.size ≤ w7.heap.size) :
    Sx w ((w7.alloc (.cells #[h, pp, g] 26)).alloc (.cells #[] 26)) p N w7.heap.size h pp g s (.slice (some ⟨w7.heap.size + 1, 0, none⟩) 0 0) [] [] := by
  have D := Sm.made (S.below (bl_alloc (bl_refl w7) (.cells #[h, pp, g] 26)))
  rw [show (w7.alloc (.cells #[h, pp, g] 26)).heap.size = w7.heap.size + 1 by simp] at D
  refine ⟨D, (Bx.new (b := w7.heap.size) w7 _ _ rfl).alloc _, ((O.alloc _).alloc _).sl, fun k hk => ?_, by simp [Value.ownBlock], by omega⟩
  have h1 := O.blk k hk
  refine ⟨by simp [Value.ownBlock]; omega, by omega, by simp; omega⟩
def SomeO (w : World) (e : Ending) (w' : World) : Prop := ∃ (va : Value) (ss : List Src) (m : Int), e = .returned (.tuple #[va, .int .i64 m]) ∧ SlL w' va ss ∧ Bl w w'
set_option maxRecDepth 100000 in
set_option maxHeartbeats 25600000 in
theorem lsome_any {w : World} {v : Value} {bs : List Int} (h : SlB w v bs) (hl : bs.length ≤ 4096) :
    Calls Try.prog 45 #[v] w (SomeO w) := by
  obtain ⟨av, cv, rfl, hcv⟩ := h.form
  have HS := Lib.hid h
  clear h
  go_enter Try.func45, Try.ntmps45
  go_wp2_with fail
  refine (dfrom_any HS.out (by omega)).mono ?_
  rintro e w1 ⟨p, rfl, hD, hb1⟩
  go_wp2_with fail
  have D2 := Sm.made hD
  obtain ⟨bv, hbv⟩ : ∃ bv, bv = w1.heap.size := ⟨_, rfl⟩
  rw [← hbv] at D2 ⊢
  generalize w1.alloc (.cells #[] 26) = w2 at *
  clear hD hb1 hbv
  refine (dpick_any D2.S (by omega) (by omega)).mono ?_
  rintro e w3 ⟨c1, rfl, c10, c11, hS3, hU3⟩
  have D3 := D2.upd hS3 hU3
  clear D2 hS3 hU3
  go_wp2_with fail
  go_loopw [5, 6] (fun s5 s6 wr => ∃ (c : Int) (v : Value) (vs : List V3) (ss : List Src), s5 = v ∧ s6 = .int .i64 c ∧ 0 ≤ c ∧ c ≤ 6 ∧ Sm w wr p (3000 - 400 * c.toNat) v vs ss ∧ ss.length ≤ 6 - c.toNat) (fun _ s6 _ => (intOf s6).toNat)
  case atStart => exact ⟨c1, _, _, _, rfl, rfl, by omega, by omega, D3.more (by omega), by simp⟩
  case round =>
    clear D3
    obtain ⟨c, v, vs, ss, rfl, rfl, hc0, hc6, D, hln⟩ := hrel
    obtain ⟨va, cv2, rfl, hcc⟩ := D.L.form
    by_cases hc1 : 0 < c
    · go_wp2_with fail
      refine (sdraw15_any D.S (by omega)).mono ?_
      rintro e w4 ⟨h, pp, g, s, rfl, hO, _, hS4, hU4⟩
      obtain ⟨⟨b1, m1, k1, rfl⟩, ⟨b2, m2, k2, rfl⟩, ⟨b3, m3, k3, rfl⟩⟩ := hO.shape
      have D4 := D.upd hS4 hU4
      have K4 := ownS_blk hO D.L (by have := D.S.out.2.1; omega)
      have OS := hO.sl
      clear hS4 hU4 hO
      go_wp2_with (at_builtin; refine wpList_append_sv rfl _ _ rfl (p + 1) _ _ _ (by rfl) D4.L (.slice b1 m1 k1) (.slice b2 m2 k2) (.slice b3 m3 k3) _ OS K4 (by first | rfl | simp [Act.eval]) (by omega) (by have := D4.S.out.2.1; omega) ?_; intro v' wn hL' hg hnb)
      have D5 := D4.app hL' hg
      obtain ⟨a5, c5, rfl, _⟩ := D5.L.form
      clear hL' hg hnb D4 D K4 OS
      go_wp2
      go_roundw
      case rel => exact ⟨c - 1, _, _, _, rfl, by go_num, by omega, by omega, D5.more (by omega), by simp; omega⟩
      case measure => simp only [intOf]; omega
    · go_wp2_with fail
      refine (done_any D.S (by omega) (by omega)).mono ?_
      rintro e w4 ⟨b, rfl, hS4, hU4⟩
      have D4 := D.upd hS4 hU4
      clear hS4 hU4 D
      go_upto_if 24 with fail
      go_cut [5] (fun s5 wx => ∃ v vs ss, s5 = v ∧ Sm w wx p 4000 v vs ss)
      case first =>
        cases b with
        | false =>
          go_wp2_with fail
          go_meet
          exact ⟨_, _, _, rfl, D4.more (by omega)⟩
        | true =>
          go_wp2_with fail
          refine (sbent15_any D4.S (by omega)).mono ?_
          rintro e w5 ⟨h, pp, g, s, rfl, hO, _, hS5, hU5⟩
          obtain ⟨⟨b1, m1, k1, rfl⟩, ⟨b2, m2, k2, rfl⟩, ⟨b3, m3, k3, rfl⟩⟩ := hO.shape
          have D5 := D4.upd hS5 hU5
          have K5 := ownS_blk hO D4.L (by have := D4.S.out.2.1; omega)
          have OS := hO.sl
          clear hS5 hU5 hO
          go_wp2_with (at_builtin; refine wpList_append_sv rfl _ _ rfl (p + 1) _ _ _ (by rfl) D5.L (.slice b1 m1 k1) (.slice b2 m2 k2) (.slice b3 m3 k3) _ OS K5 (by first | rfl | simp [Act.eval]) (by omega) (by have := D5.S.out.2.1; omega) ?_; intro v' wn hL' hg hnb)
          have D6 := D5.app hL' hg
          clear hL' hg hnb D5 D4 K5 OS
          go_wp2_with fail
          go_meet
          exact ⟨_, _, _, rfl, D6.more (by omega)⟩
      case rest =>
        obtain ⟨v, vs, ss, rfl, D5⟩ := hcut
        obtain ⟨a5, c5, rfl, _⟩ := D5.L.form
        obtain ⟨w5, rfl⟩ : ∃ x : World, x = wc := ⟨_, rfl⟩
        clear D4 hcc hln
        go_wp2_with fail
        refine (done_any D5.S (by omega) (by omega)).mono ?_
        rintro e w6 ⟨b, rfl, hS6, hU6⟩
        have D6 := D5.upd hS6 hU6
        clear hS6 hU6 D5
        cases b with
        | false =>
          go_wp2_with fail
          refine (smost_any D6.S (by omega)).mono ?_
          rintro e w9 ⟨n, rfl, hS9, hU9⟩
          have D9 := D6.upd hS9 hU9
          go_wp2
          refine bodyPost_ret (v := .tuple #[.slice a5 ss.length c5, .int .i64 n]) (by simp only [results, Try.results45]; go_simp) rfl ?_
          exact ⟨_, _, n, rfl, D9.L.slL, D9.S.out.2.2⟩
        | true =>
          go_wp2_with fail
          refine (sdraw15_any D6.S (by omega)).mono ?_
          rintro e w7 ⟨h, pp, g, s, rfl, hO, _, hS7, hU7⟩
          obtain ⟨⟨b1, m1, k1, rfl⟩, ⟨b2, m2, k2, rfl⟩, ⟨b3, m3, k3, rfl⟩⟩ := hO.shape
          have D7 := Sx.made hS7 hO D6.S.out.2.1 hU7.size
          clear hS7 hU7 hO D6
          go_wp2_with fail
          obtain ⟨bX, hbX⟩ : ∃ bX, bX = w7.heap.size := ⟨_, rfl⟩
          rw [← hbX] at D7 ⊢
          generalize (w7.alloc (.cells #[.slice b1 m1 k1, .slice b2 m2 k2, .slice b3 m3 k3] 26)).alloc (.cells #[] 26) = w8 at *
          clear hbX
          refine (dpick_any D7.D.S (by omega) (by omega)).mono ?_
          rintro e w9 ⟨r, rfl, r0, r1, hS9, hU9⟩
          have D9 := D7.upd hS9 hU9
          clear hS9 hU9 D7
          go_wp2_with fail
          go_loopw [5, 8] (fun s5 s8 wr => ∃ (c : Int) (v : Value) (vs : List V3) (ss : List Src), s5 = v ∧ s8 = .int .i64 c ∧ 0 ≤ c ∧ c ≤ 60 ∧ Sx w wr p 5000 bX (.slice b1 m1 k1) (.slice b2 m2 k2) (.slice b3 m3 k3) s v vs ss ∧ ss.length ≤ 60 - c.toNat) (fun _ s8 _ => (intOf s8).toNat)
          case atStart => exact ⟨50 + r, _, _, _, rfl, by go_num, by omega, by omega, ⟨D9.D.more (by omega), D9.X, D9.A, D9.K, D9.nX, D9.pX⟩, by simp⟩
          case round =>
            clear D9
            obtain ⟨c, v, vs, ss, rfl, rfl, hc0, hc6, D, hln⟩ := hrel
            obtain ⟨va, cv2, rfl, hcc⟩ := D.D.L.form
            by_cases hc1 : 0 < c
            · obtain ⟨cX, fX, zX⟩ := D.X.out
              go_wp2_with (at_builtin; refine wpList_append_sv rfl _ _ rfl (p + 1) _ _ _ (by rfl) D.D.L (.slice b1 m1 k1) (.slice b2 m2 k2) (.slice b3 m3 k3) _ D.A D.K (by first | rfl | simp [Act.eval]) (by omega) (by have := D.D.S.out.2.1; omega) ?_; intro v' wn hL' hg hnb)
              have E := D.app hL' hg hnb
              obtain ⟨a9, c9, rfl, _⟩ := E.D.L.form
              clear hL' hg hnb D cX fX zX
              go_wp2
              go_roundw
              case rel => exact ⟨c - 1, _, _, _, rfl, by go_num, by omega, by omega, E, by simp; omega⟩
              case measure => simp only [intOf]; omega
            · have D := D.D
              go_wp2_with fail
              refine (smost_any D.S (by omega)).mono ?_
              rintro e w9 ⟨n, rfl, hS9, hU9⟩
              have D9 := D.upd hS9 hU9
              go_wp2
              refine bodyPost_ret (v := .tuple #[.slice va ss.length cv2, .int .i64 n]) (by simp only [results, Try.results45]; go_simp) rfl ?_
              exact ⟨_, _, n, rfl, D9.L.slL, D9.S.out.2.2⟩

end Go.Proofs.Ytgkelemfbmmgnaa

