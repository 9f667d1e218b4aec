/- Draws of sources: a drawn source is the call's own. Each theorem names its conditions. -/
import Derived.Test.YtndblondleclpaaGreatDoorSdA
import Derived.Test.YtndblondleclpaaGreatDoorSrcEs
import Derived.Test.YtndblondleclpaaGreatDoorSrcFr
namespace Go.Proofs.YtndblondleclpaaGreatDoor
open Go.RowKit
set_option linter.unusedVariables false
set_option linter.unusedSimpArgs false

/-- Within a call that began at w: a source of choices p, and a source in block b that is the call's own. -/
structure Dr (w0 w wr : World) (p N b : Nat) (h pp g : Value) (s : Src) : Prop where
  S : SrcD w0 wr p N
  U : Upd w wr p
  X : Bx wr b #[h, pp, g]
  O : OwnS wr (w.heap.size + 1) h pp g s
  nb : ∀ k, blks h pp g k → k ≠ b
  bb : w.heap.size + 1 ≤ b
  R : Bx wr w.heap.size #[.slice none 0 0, .slice none 0 0, .slice none 0 0]
  pw : p < w.heap.size
theorem Dr.upd {w0 w wr w2 : World} {p N M b : Nat} {h pp g : Value} {s : Src} (D : Dr w0 w wr p N b h pp g s) (hS : SrcD w0 w2 p M) (hU : Upd wr w2 p) : Dr w0 w w2 p M b h pp g s :=
  ⟨hS, upd_trans D.U hU, D.X.upd hU (by have := D.bb; have := D.pw; omega), D.O.only2 (only_upd hU) (fun k hk e => by have := (D.O.blk k hk).1; have := D.pw; omega), D.nb, D.bb, D.R.upd hU (by have := D.pw; omega), D.pw⟩
theorem Dr.bl {w0 w wr w2 : World} {p N b : Nat} {h pp g : Value} {s : Src} (D : Dr w0 w wr p N b h pp g s) (hb : Bl wr w2) : Dr w0 w w2 p N b h pp g s :=
  ⟨D.S.below hb, upd_bl D.U hb, D.X.below hb, D.O.below hb, D.nb, D.bb, D.R.below hb, D.pw⟩
theorem Dr.more {w0 w wr : World} {p N M b : Nat} {h pp g : Value} {s : Src} (D : Dr w0 w wr p N b h pp g s) (hM : N ≤ M) : Dr w0 w wr p M b h pp g s :=
  ⟨D.S.more hM, D.U, D.X, D.O, D.nb, D.bb, D.R, D.pw⟩
theorem Dr.w0le {w0 w wr : World} {p N b : Nat} {h pp g : Value} {s : Src} (D : Dr w0 w wr p N b h pp g s) : w0.heap.size ≤ w.heap.size := by have := D.S.out.1; have := D.pw; omega
/-- What the append of one number to one of the lists leaves. -/
structure Ap (w0 w wn w' : World) (p N b : Nat) (h pp g h' pp' g' : Value) (s' : Src) : Prop where
  X : Bx wn b #[h, pp, g]
  D : Dr w0 w w' p N b h' pp' g' s'
theorem Dr.app0 {w0 w w1 wn : World} {p N b M : Nat} {h pp g v' : Value} {s : Src} {y : Int} (D : Dr w0 w w1 p N b h pp g s) (ho : Own wn (w.heap.size + 1) v' (s.H ++ [y])) (hg : w1.grownBy wn h.ownBlock) (hl : v'.ownBlock = h.ownBlock ∨ v'.ownBlock = some M) (hM : w1.heap.size ≤ M) : Ap w0 w wn (wn.setCell ⟨b, 0, none⟩ v') p N b h pp g v' pp g ⟨s.H ++ [y], s.P, s.G⟩ := by
  have hbl : b < w1.heap.size := D.X.out.2.2
  have ho1 : Only w1 wn (fun k => h.ownBlock = some k) := Only.of_grown hg (fun k e => e)
  have hrow : ∀ k, h.ownBlock = some k → w.heap.size + 1 ≤ k ∧ k < w1.heap.size := fun k e => (D.O.1).lt k e
  have hpw := D.pw
  have hw0 := D.w0le
  have xn := D.X.only ho1 (fun e => D.nb b (.inl e) rfl)
  have hS := D.S.only ho1 (fun e => by have := (hrow _ e).1; omega) (fun k e => by have := (hrow _ e).1; omega)
  have hU := upd_only D.U ho1 (fun k e => by have := (hrow _ e).1; omega)
  have n1 : ∀ k, v'.ownBlock = some k → k ≠ b := fun k e => by
    rcases hl with q | q
    · exact D.nb k (.inl (q ▸ e))
    · rw [q] at e; injection e with e; omega
  have fr : ∀ {u : Value} {xs : List Int}, Own w1 (w.heap.size + 1) u xs → Apart h u → Own wn (w.heap.size + 1) u xs := fun hu ha => hu.only ho1 (fun k e q => ha k q e)
  have ap : ∀ {u : Value} {xs : List Int}, Own w1 (w.heap.size + 1) u xs → Apart h u → Apart v' u := fun hu ha k e q => by
    rcases hl with z | z
    · exact ha k (z ▸ e) q
    · rw [z] at e; injection e with e; have := (hu.lt k q).2; omega
  refine ⟨xn, ⟨hS.far (q := ⟨b, 0, none⟩) (by have := D.bb; simp; omega) (by have := D.bb; simp; omega) _, upd_far hU (q := ⟨b, 0, none⟩) (by have := D.bb; simp; omega) _, xn.set 0 _, ⟨(own_farU (ho) (p := ⟨b, 0, none⟩) (fun k e => n1 k e) v'), (own_farU (fr D.O.2.1 (D.O.2.2.2.1)) (p := ⟨b, 0, none⟩) (fun k e => D.nb k (.inr (.inl e))) v'), (own_farU (fr D.O.2.2.1 (D.O.2.2.2.2.1)) (p := ⟨b, 0, none⟩) (fun k e => D.nb k (.inr (.inr e))) v'), ap D.O.2.1 (D.O.2.2.2.1), ap D.O.2.2.1 (D.O.2.2.2.2.1), D.O.2.2.2.2.2⟩, ?_, D.bb, (D.R.only ho1 (fun e => by have := (hrow _ e).1; omega)).far (p := ⟨b, 0, none⟩) (by have := D.bb; simp; omega) _, D.pw⟩⟩
  intro k hk
  rcases hk with e | e | e
  · exact n1 k e
  · exact D.nb k (.inr (.inl e))
  · exact D.nb k (.inr (.inr e))
theorem Dr.app1 {w0 w w1 wn : World} {p N b M : Nat} {h pp g v' : Value} {s : Src} {y : Int} (D : Dr w0 w w1 p N b h pp g s) (ho : Own wn (w.heap.size + 1) v' (s.P ++ [y])) (hg : w1.grownBy wn pp.ownBlock) (hl : v'.ownBlock = pp.ownBlock ∨ v'.ownBlock = some M) (hM : w1.heap.size ≤ M) : Ap w0 w wn (wn.setCell ⟨b, 1, none⟩ v') p N b h pp g h v' g ⟨s.H, s.P ++ [y], s.G⟩ := by
  have hbl : b < w1.heap.size := D.X.out.2.2
  have ho1 : Only w1 wn (fun k => pp.ownBlock = some k) := Only.of_grown hg (fun k e => e)
  have hrow : ∀ k, pp.ownBlock = some k → w.heap.size + 1 ≤ k ∧ k < w1.heap.size := fun k e => (D.O.2.1).lt k e
  have hpw := D.pw
  have hw0 := D.w0le
  have xn := D.X.only ho1 (fun e => D.nb b (.inr (.inl e)) rfl)
  have hS := D.S.only ho1 (fun e => by have := (hrow _ e).1; omega) (fun k e => by have := (hrow _ e).1; omega)
  have hU := upd_only D.U ho1 (fun k e => by have := (hrow _ e).1; omega)
  have n1 : ∀ k, v'.ownBlock = some k → k ≠ b := fun k e => by
    rcases hl with q | q
    · exact D.nb k (.inr (.inl (q ▸ e)))
    · rw [q] at e; injection e with e; omega
  have fr : ∀ {u : Value} {xs : List Int}, Own w1 (w.heap.size + 1) u xs → Apart pp u → Own wn (w.heap.size + 1) u xs := fun hu ha => hu.only ho1 (fun k e q => ha k q e)
  have ap : ∀ {u : Value} {xs : List Int}, Own w1 (w.heap.size + 1) u xs → Apart pp u → Apart v' u := fun hu ha k e q => by
    rcases hl with z | z
    · exact ha k (z ▸ e) q
    · rw [z] at e; injection e with e; have := (hu.lt k q).2; omega
  refine ⟨xn, ⟨hS.far (q := ⟨b, 1, none⟩) (by have := D.bb; simp; omega) (by have := D.bb; simp; omega) _, upd_far hU (q := ⟨b, 1, none⟩) (by have := D.bb; simp; omega) _, xn.set 1 _, ⟨(own_farU (fr D.O.1 (Apart.symm D.O.2.2.2.1)) (p := ⟨b, 1, none⟩) (fun k e => D.nb k (.inl e)) v'), (own_farU (ho) (p := ⟨b, 1, none⟩) (fun k e => n1 k e) v'), (own_farU (fr D.O.2.2.1 (D.O.2.2.2.2.2)) (p := ⟨b, 1, none⟩) (fun k e => D.nb k (.inr (.inr e))) v'), Apart.symm (ap D.O.1 (Apart.symm D.O.2.2.2.1)), D.O.2.2.2.2.1, ap D.O.2.2.1 (D.O.2.2.2.2.2)⟩, ?_, D.bb, (D.R.only ho1 (fun e => by have := (hrow _ e).1; omega)).far (p := ⟨b, 1, none⟩) (by have := D.bb; simp; omega) _, D.pw⟩⟩
  intro k hk
  rcases hk with e | e | e
  · exact D.nb k (.inl e)
  · exact n1 k e
  · exact D.nb k (.inr (.inr e))
theorem Dr.app2 {w0 w w1 wn : World} {p N b M : Nat} {h pp g v' : Value} {s : Src} {y : Int} (D : Dr w0 w w1 p N b h pp g s) (ho : Own wn (w.heap.size + 1) v' (s.G ++ [y])) (hg : w1.grownBy wn g.ownBlock) (hl : v'.ownBlock = g.ownBlock ∨ v'.ownBlock = some M) (hM : w1.heap.size ≤ M) : Ap w0 w wn (wn.setCell ⟨b, 2, none⟩ v') p N b h pp g h pp v' ⟨s.H, s.P, s.G ++ [y]⟩ := by
  have hbl : b < w1.heap.size := D.X.out.2.2
  have ho1 : Only w1 wn (fun k => g.ownBlock = some k) := Only.of_grown hg (fun k e => e)
  have hrow : ∀ k, g.ownBlock = some k → w.heap.size + 1 ≤ k ∧ k < w1.heap.size := fun k e => (D.O.2.2.1).lt k e
  have hpw := D.pw
  have hw0 := D.w0le
  have xn := D.X.only ho1 (fun e => D.nb b (.inr (.inr e)) rfl)
  have hS := D.S.only ho1 (fun e => by have := (hrow _ e).1; omega) (fun k e => by have := (hrow _ e).1; omega)
  have hU := upd_only D.U ho1 (fun k e => by have := (hrow _ e).1; omega)
  have n1 : ∀ k, v'.ownBlock = some k → k ≠ b := fun k e => by
    rcases hl with q | q
    · exact D.nb k (.inr (.inr (q ▸ e)))
    · rw [q] at e; injection e with e; omega
  have fr : ∀ {u : Value} {xs : List Int}, Own w1 (w.heap.size + 1) u xs → Apart g u → Own wn (w.heap.size + 1) u xs := fun hu ha => hu.only ho1 (fun k e q => ha k q e)
  have ap : ∀ {u : Value} {xs : List Int}, Own w1 (w.heap.size + 1) u xs → Apart g u → Apart v' u := fun hu ha k e q => by
    rcases hl with z | z
    · exact ha k (z ▸ e) q
    · rw [z] at e; injection e with e; have := (hu.lt k q).2; omega
  refine ⟨xn, ⟨hS.far (q := ⟨b, 2, none⟩) (by have := D.bb; simp; omega) (by have := D.bb; simp; omega) _, upd_far hU (q := ⟨b, 2, none⟩) (by have := D.bb; simp; omega) _, xn.set 2 _, ⟨(own_farU (fr D.O.1 (Apart.symm D.O.2.2.2.2.1)) (p := ⟨b, 2, none⟩) (fun k e => D.nb k (.inl e)) v'), (own_farU (fr D.O.2.1 (Apart.symm D.O.2.2.2.2.2)) (p := ⟨b, 2, none⟩) (fun k e => D.nb k (.inr (.inl e))) v'), (own_farU (ho) (p := ⟨b, 2, none⟩) (fun k e => n1 k e) v'), D.O.2.2.2.1, Apart.symm (ap D.O.1 (Apart.symm D.O.2.2.2.2.1)), Apart.symm (ap D.O.2.1 (Apart.symm D.O.2.2.2.2.2))⟩, ?_, D.bb, (D.R.only ho1 (fun e => by have := (hrow _ e).1; omega)).far (p := ⟨b, 2, none⟩) (by have := D.bb; simp; omega) _, D.pw⟩⟩
  intro k hk
  rcases hk with e | e | e
  · exact D.nb k (.inl e)
  · exact D.nb k (.inr (.inl e))
  · exact n1 k e

theorem mul_small {x y : Int} (h1 : 0 ≤ x) (h2 : x = 0 ∨ x < 2) (h3 : 0 ≤ y) (h4 : y = 0 ∨ y < 3) : 0 ≤ x * y ∧ x * y ≤ 2 := by
  rcases (show x = 0 ∨ x = 1 by omega) with e | e <;> rw [e] <;> omega
def SrcQ (w0 w : World) (p N : Nat) (e : Ending) (w' : World) : Prop :=
  ∃ h pp g s, e = .returned (.agg #[h, pp, g]) ∧ OwnS w' (w.heap.size + 1) h pp g s ∧ (s.H.length ≤ 2000 ∧ s.P.length ≤ 2000 ∧ s.G.length ≤ 2000 ∧ s.P.length ≤ s.G.length) ∧ SrcD w0 w' p (N + 200) ∧ Upd w w' p
theorem srcq_set {w0 w w1 : World} {p N M : Nat} {h pp g : Value} {s : Src} (S : SrcD w0 w1 p M) (U : Upd w w1 p) (O : OwnS w1 (w.heap.size + 1) h pp g s) (hp : p < w.heap.size) (hM : M ≤ N + 200) (L : s.H.length ≤ 2000 ∧ s.P.length ≤ 2000 ∧ s.G.length ≤ 2000 ∧ s.P.length ≤ s.G.length) :
    SrcQ w0 w p N (.returned (.agg #[h, pp, g])) (((w1.setCell ⟨w.heap.size, 0, none⟩ h).setCell ⟨w.heap.size, 1, none⟩ pp).setCell ⟨w.heap.size, 2, none⟩ g) := by
  have h0 : w0.heap.size ≤ w.heap.size := by have := S.out.1; omega
  have st : ∀ {W : World} (j : Nat) (v : Value), OwnS W (w.heap.size + 1) h pp g s → OwnS (W.setCell ⟨w.heap.size, j, none⟩ v) (w.heap.size + 1) h pp g s := fun j v o => o.only2 (only_set _ _ _) (fun k hk e => by have := (o.blk k hk).1; simp at e; omega)
  refine ⟨h, pp, g, s, rfl, st 2 _ (st 1 _ (st 0 _ O)), L, ?_, upd_far (upd_far (upd_far U (q := ⟨w.heap.size, 0, none⟩) (by simp) _) (q := ⟨w.heap.size, 1, none⟩) (by simp) _) (q := ⟨w.heap.size, 2, none⟩) (by simp) _⟩
  exact (((S.far (q := ⟨w.heap.size, 0, none⟩) (by simpa using h0) (by simp; omega) _).far (q := ⟨w.heap.size, 1, none⟩) (by simpa using h0) (by simp; omega) _).far (q := ⟨w.heap.size, 2, none⟩) (by simpa using h0) (by simp; omega) _).more hM
theorem dr_new {w0 w w5 : World} {p M : Nat} {q : Int} (S : SrcD w0 w5 p M) (U : Upd w w5 p) (R : Bx w5 w.heap.size #[.slice none 0 0, .slice none 0 0, .slice none 0 0]) (hp : p < w.heap.size) (hq : R64 q) :
    Dr w0 w ((((w5.alloc (.cells #[.int .i64 q] 2)).alloc (.cells #[] 2)).alloc (.cells #[] 2)).alloc (.cells #[.slice (some ⟨w5.heap.size, 0, none⟩) 1 1, .slice (some ⟨w5.heap.size + 1, 0, none⟩) 0 0, .slice (some ⟨w5.heap.size + 1 + 1, 0, none⟩) 0 0] 26)) p M (w5.heap.size + 1 + 1 + 1) (.slice (some ⟨w5.heap.size, 0, none⟩) 1 1) (.slice (some ⟨w5.heap.size + 1, 0, none⟩) 0 0) (.slice (some ⟨w5.heap.size + 1 + 1, 0, none⟩) 0 0) ⟨[q], [], []⟩ := by
  have hz := R.out.2.2
  have o1 := own_lit w5 [q] (by intro x hx; simp at hx; subst hx; exact hq) (by simp [maxLen])
  have o2 := own_made (w5.alloc (.cells #[.int .i64 q] 2)) (B := w.heap.size + 1) (by simp; omega)
  have o3 := own_made ((w5.alloc (.cells #[.int .i64 q] 2)).alloc (.cells #[] 2)) (B := w.heap.size + 1) (by simp; omega)
  simp at o1 o2 o3
  have B : Bl w5 ((((w5.alloc (.cells #[.int .i64 q] 2)).alloc (.cells #[] 2)).alloc (.cells #[] 2)).alloc (.cells #[.slice (some ⟨w5.heap.size, 0, none⟩) 1 1, .slice (some ⟨w5.heap.size + 1, 0, none⟩) 0 0, .slice (some ⟨w5.heap.size + 1 + 1, 0, none⟩) 0 0] 26)) := bl_alloc (bl_alloc (bl_alloc (bl_alloc (bl_refl _) _) _) _) _
  refine ⟨S.below B, upd_bl U B, Bx.new (b := w5.heap.size + 1 + 1 + 1) _ _ _ (by simp), ⟨(((o1.alloc _).alloc _).alloc _).mono (by omega), (o2.alloc _).alloc _, o3.alloc _, ?_, ?_, ?_⟩, ?_, by omega, R.below B, hp⟩
  · intro k h1 h2; simp [Value.ownBlock] at h1 h2; omega
  · intro k h1 h2; simp [Value.ownBlock] at h1 h2; omega
  · intro k h1 h2; simp [Value.ownBlock] at h1 h2; omega
  · intro k hk
    rcases hk with e | e | e <;> simp [Value.ownBlock] at e <;> omega
theorem srcFr_lenK (n d : Int) : (srcFrF n d).1.H.length ≤ 2000 ∧ (srcFrF n d).1.P.length ≤ 2000 ∧ (srcFrF n d).1.G.length ≤ 2000 ∧ (srcFrF n d).1.P.length ≤ (srcFrF n d).1.G.length := by
  unfold srcFrF
  split
  · split
    · simp; omega
    · simp
  · simp
theorem srcE_lenK : srcE.H.length ≤ 2000 ∧ srcE.P.length ≤ 2000 ∧ srcE.G.length ≤ 2000 ∧ srcE.P.length ≤ srcE.G.length := by simp [srcE]
theorem surd_len (p d q : Int) : (surdF p d q).1.H.length ≤ 2000 ∧ (surdF p d q).1.P.length ≤ 2000 ∧ (surdF p d q).1.G.length ≤ 2000 ∧ (surdF p d q).1.P.length ≤ (surdF p d q).1.G.length := by
  have nil : ∀ c : Int, ((⟨[], [], []⟩, c) : Src × Int).1.H.length ≤ 2000 ∧ ((⟨[], [], []⟩, c) : Src × Int).1.P.length ≤ 2000 ∧ ((⟨[], [], []⟩, c) : Src × Int).1.G.length ≤ 2000 ∧ ((⟨[], [], []⟩, c) : Src × Int).1.P.length ≤ ((⟨[], [], []⟩, c) : Src × Int).1.G.length := fun c => by simp
  cases hok : okU p d q with
  | false => rw [surdF_bad hok]; exact nil 1
  | true =>
    cases hw : wkF [] [] (p, d, q) with
    | none => rw [surdF_full hok hw]; exact nil 5
    | some r =>
      cases ho : okSrc (srcU r) with
      | false => rw [surdF_no hok hw ho]; exact nil 5
      | true =>
        rw [surdF_yes hok hw ho]
        have k := okSrc_iff.1 ho
        have h1 := k.h30; have h2 := k.p30; have h3 := k.gp
        exact ⟨by show (srcU r).H.length ≤ _; omega, by show (srcU r).P.length ≤ _; omega, by show (srcU r).G.length ≤ _; omega, by show (srcU r).P.length ≤ (srcU r).G.length; omega⟩
set_option maxRecDepth 100000 in
set_option maxHeartbeats 25600000 in
theorem sdraw15_any {w0 w : World} {p N : Nat} (h0 : SrcD w0 w p N) (hN : N ≤ 600000000) :
    Calls Tryz.prog 64 #[.pointer (some ⟨p, 0, none⟩)] w (SrcQ w0 w p N) := by
  have hp := h0.out.2.1
  have hw0 : w0.heap.size ≤ w.heap.size := by have := h0.out; omega
  go_enter Tryz.func64, Tryz.ntmps64
  go_wp2_with fail
  have xR : Bx (w.alloc (.cells #[.slice none 0 0, .slice none 0 0, .slice none 0 0] 26)) w.heap.size #[.slice none 0 0, .slice none 0 0, .slice none 0 0] := Bx.new (b := w.heap.size) _ _ _ rfl
  have hA := h0.below (bl_alloc (bl_refl w) (.cells #[.slice none 0 0, .slice none 0 0, .slice none 0 0] 26))
  have uA : Upd w (w.alloc (.cells #[.slice none 0 0, .slice none 0 0, .slice none 0 0] 26)) p := upd_bl (upd_refl _ _) (bl_alloc (bl_refl w) _)
  generalize w.alloc (.cells #[.slice none 0 0, .slice none 0 0, .slice none 0 0] 26) = wa at *
  refine (dpick_any hA (by omega) (by omega)).mono ?_
  rintro e w1 ⟨x, rfl, x0, x1, hS1, hU1⟩
  have xR1 := xR.upd hU1 (by omega)
  have u1 := upd_trans uA hU1
  clear hA xR uA hU1 h0
  by_cases hx0 : x = 0
  · subst hx0
    go_wp2_with fail
    refine (sdraw7_any hS1 (by omega)).mono ?_
    rintro e w2 ⟨a, b, c, rfl, hS2, hU2⟩
    have xR2 := xR1.upd hU2 (by omega)
    have u2 := upd_trans u1 hU2
    go_wp2_with fail
    obtain ⟨⟨s, q⟩, hF⟩ : ∃ F, surdF a b c = F := ⟨_, rfl⟩
    have HL := Lib.hid (surd_len a b c)
    refine (spec_SourceOfSurd a b c _).mono ?_
    rintro e w3 ⟨h, pp, g, rfl, hO, hb3⟩
    rw [hF] at hO HL
    rw [hF]
    obtain ⟨⟨ha, hn', hc, rfl⟩, ⟨pa, pn, pc, rfl⟩, ⟨ga, gn, gc, rfl⟩⟩ := hO.shape
    have hO := Lib.hid hO
    clear hF
    simp only []
    by_cases hq : q = 0
    · have hq2 : (q == 0) = true := by simp [hq]
      clear hq
      have B4 := bl_call (bl_refl w2) (hb3 : Bl w2 w3)
      have xR4 := (xR2.below hb3).alloc (.cells #[.slice ha hn' hc, .slice pa pn pc, .slice ga gn gc] 26)
      have xO4 : Bx (w3.alloc (.cells #[.slice ha hn' hc, .slice pa pn pc, .slice ga gn gc] 26)) w3.heap.size #[.slice ha hn' hc, .slice pa pn pc, .slice ga gn gc] := Bx.new (b := w3.heap.size) _ _ _ rfl
      have hz2 := xR2.out.2.2
      have O4 := (hO.out.mono (B' := w.heap.size + 1) (by omega)).alloc (.cells #[.slice ha hn' hc, .slice pa pn pc, .slice ga gn gc] 26)
      have S4 := (hS2.below hb3).below (bl_alloc (bl_refl _) (.cells #[.slice ha hn' hc, .slice pa pn pc, .slice ga gn gc] 26))
      have U4 := upd_bl u2 (bl_call hb3 (bl_alloc (bl_refl w3) (.cells #[.slice ha hn' hc, .slice pa pn pc, .slice ga gn gc] 26)))
      obtain ⟨cR, fR, zR⟩ := xR4.out
      obtain ⟨cO, fO, zO⟩ := xO4.out
      go_wp2
      refine bodyPost_ret (v := .agg #[.slice ha hn' hc, .slice pa pn pc, .slice ga gn gc]) (by simp only [results, Tryz.results64]; go_simp) rfl ?_
      exact srcq_set S4 U4 O4 hp (by omega) HL.out
    · have hq2 : (q == 0) = false := by simp [hq]
      clear hq
      have xR4 := (xR2.below hb3).alloc (.cells #[.slice ha hn' hc, .slice pa pn pc, .slice ga gn gc] 26)
      have S4 := (hS2.below hb3).below (bl_alloc (bl_refl _) (.cells #[.slice ha hn' hc, .slice pa pn pc, .slice ga gn gc] 26))
      have U4 := upd_bl u2 (bl_call hb3 (bl_alloc (bl_refl w3) (.cells #[.slice ha hn' hc, .slice pa pn pc, .slice ga gn gc] 26)))
      go_wp2_with fail
      generalize w3.alloc (.cells #[.slice ha hn' hc, .slice pa pn pc, .slice ga gn gc] 26) = w4 at *
      clear hO hb3 xR2 hS2 u2 hU2 xR1 hS1 u1 x0 x1
      refine (dpick_any S4 (by omega) (by omega)).mono ?_
      rintro e w5 ⟨r, rfl, r0, r1, hS5, hU5⟩
      have xR5 := xR4.upd hU5 (by omega)
      have u5 := upd_trans U4 hU5
      obtain ⟨t, ht⟩ : ∃ t, t = r - 3 := ⟨_, rfl⟩
      have hwt : IntKind.i64.wrap (r - 3) = t := by rw [IntKind.wrap_i64]; omega
      have htb : R64 t := by unfold R64; omega
      clear ht
      have D6 := dr_new hS5 u5 xR5 hp htb
      go_wp2_with fail
      obtain ⟨bO, hbO⟩ : ∃ bO, bO = w5.heap.size + 1 + 1 + 1 := ⟨_, rfl⟩
      rw [← hbO] at D6 ⊢
      generalize (((w5.alloc (.cells #[.int .i64 t] 2)).alloc (.cells #[] 2)).alloc (.cells #[] 2)).alloc (.cells #[.slice (some ⟨w5.heap.size, 0, none⟩) 1 1, .slice (some ⟨w5.heap.size + 1, 0, none⟩) 0 0, .slice (some ⟨w5.heap.size + 1 + 1, 0, none⟩) 0 0] 26) = w6 at *
      refine (dpick_any D6.S (by omega) (by omega)).mono ?_
      rintro e w7 ⟨c1, rfl, c10, c11, hS7, hU7⟩
      have D7 := D6.upd hS7 hU7
      clear D6 hS7 hU7 hbO hS5 hU5 xR5 u5 r0 r1 htb
      go_wp2_with fail
      go_loopw [8] (fun s8 wr => ∃ (c : Int) (h pp g : Value) (s : Src), s8 = .int .i64 c ∧ 0 ≤ c ∧ c ≤ 4 ∧ Dr w0 w wr p (N + 140 - 4 * c.toNat) bO h pp g s ∧ s.H.length ≤ 20 - c.toNat ∧ s.P.length ≤ 20 ∧ s.G.length ≤ 20 ∧ s.P.length ≤ s.G.length) (fun s8 _ => (intOf s8).toNat)
      case atStart => exact ⟨c1, _, _, _, _, rfl, by omega, by omega, D7.more (by omega), by simp; omega, by simp, by simp⟩
      case round =>
        clear D7
        obtain ⟨c, h, pp, g, s, rfl, hc0, hc4, D, l1, l2, l3⟩ := hrel
        obtain ⟨⟨b1, m1, k1, rfl⟩, ⟨b2, m2, k2, rfl⟩, ⟨b3, m3, k3, rfl⟩⟩ := D.O.shape
        by_cases hc1 : 0 < c
        · obtain ⟨cO, fO, zO⟩ := D.X.out
          have D0 := D.bl (bl_drew (bl_refl wr))
          go_wp2_with fail
          go_region_law ((first | (go_simp; go_at_call 71; go_must (refine (dpick_any D0.S (by omega) (by omega)).mono ?_; rintro e w8 ⟨r, rfl, r0, r1, hS8, hU8⟩; have D8 := D0.upd hS8 hU8; clear cO fO zO; obtain ⟨cO, fO, zO⟩ := D8.X.out); go_wp2_with fail) | (refine step_append_i1 (by rfl) _ _ (by rfl) (w.heap.size + 1) _ s.H (by rfl) ((D8.bl (bl_alloc (bl_refl _) _)).O.1) w8.heap.size (IntKind.i64.wrap (1 + r)) (by unfold R64; rw [IntKind.wrap_i64]; omega) (by rfl) (Bx.new (b := w8.heap.size) w8 #[.int .i64 (IntKind.i64.wrap (1 + r))] 2 (by rfl)) (by omega) (by have := D8.R.out.2.2; simp; omega) ?_; intro v' wn ho hg hloc; obtain ⟨a1, n1, rfl, _⟩ := ho.form; have A0 := (D8.bl (bl_alloc (bl_refl _) (.cells #[.int .i64 (IntKind.i64.wrap (1 + r))] 2))).app0 ho hg hloc (Nat.le_refl _); clear cO fO zO; obtain ⟨cO, fO, zO⟩ := A0.X.out; clear A0)))
          all_goals
            have hln : (s.H ++ [IntKind.i64.wrap (1 + r)]).length = s.H.length + 1 := by simp
            rw [hln] at ho hloc
            have A := (D8.bl (bl_alloc (bl_refl _) (.cells #[.int .i64 (IntKind.i64.wrap (1 + r))] 2))).app0 ho hg hloc (Nat.le_refl _)
            clear ho hg hloc
            go_wp2
            go_roundw
            case rel => exact ⟨c - 1, _, _, _, _, by go_num, by omega, by omega, A.D.more (by omega), by simp; omega, l2, l3⟩
            case measure => simp only [intOf]; omega
        · obtain ⟨cO, fO, zO⟩ := D.X.out
          go_wp2_with fail
          refine (dpick_any D.S (by omega) (by omega)).mono ?_
          rintro e w8 ⟨c2, rfl, c20, c21, hS8, hU8⟩
          have D8 := D.upd hS8 hU8
          clear cO fO zO hS8 hU8 D
          go_wp2_with fail
          go_loopw [9] (fun s9 wr => ∃ (c : Int) (h pp g : Value) (s : Src), s9 = .int .i64 c ∧ 0 ≤ c ∧ c ≤ 4 ∧ Dr w0 w wr p (N + 180 - 8 * c.toNat) bO h pp g s ∧ s.H.length ≤ 100 ∧ s.P.length ≤ 100 - c.toNat ∧ s.G.length ≤ 100 - c.toNat ∧ s.P.length ≤ s.G.length) (fun s9 _ => (intOf s9).toNat)
          case atStart => exact ⟨c2, _, _, _, _, rfl, by omega, by omega, D8.more (by omega), by omega, by omega, by omega⟩
          case round =>
            clear D8 l1 l2 l3
            obtain ⟨c, h, pp, g, s, rfl, hc0, hc4, D, l1, l2, l3⟩ := hrel
            obtain ⟨⟨b1, m1, k1, rfl⟩, ⟨b2, m2, k2, rfl⟩, ⟨b3, m3, k3, rfl⟩⟩ := D.O.shape
            by_cases hc1 : 0 < c
            · obtain ⟨cO, fO, zO⟩ := D.X.out
              have D0 := D.bl (bl_drew (bl_refl wr))
              go_wp2_with fail
              go_cut [62, 63, 64, 65, 66, 67, 68, 69] from 62 to 69 (fun _ _ _ _ _ _ _ _ wx => ∃ (pp' : Value) (s' : Src), Hid (Dr w0 w wx p (N + 180 - 8 * c.toNat + 2) bO (.slice b1 m1 k1) pp' (.slice b3 m3 k3) s') ∧ s'.H.length ≤ 100 ∧ s'.P.length ≤ 101 - c.toNat ∧ s'.G.length ≤ 100 - c.toNat ∧ s'.P.length ≤ s'.G.length + 1)
              case first =>
                go_region_law ((first | (go_simp; go_at_call 71; go_must (refine (dpick_any D0.S (by omega) (by omega)).mono ?_; rintro e w8 ⟨r, rfl, r0, r1, hS8, hU8⟩; have D8 := D0.upd hS8 hU8; clear cO fO zO; obtain ⟨cO, fO, zO⟩ := D8.X.out); go_wp2_with fail) | (refine step_append_i1 (by rfl) _ _ (by rfl) (w.heap.size + 1) _ s.P (by rfl) ((D8.bl (bl_alloc (bl_refl _) _)).O.2.1) w8.heap.size (IntKind.i64.wrap (1 + r)) (by unfold R64; rw [IntKind.wrap_i64]; omega) (by rfl) (Bx.new (b := w8.heap.size) w8 #[.int .i64 (IntKind.i64.wrap (1 + r))] 2 (by rfl)) (by omega) (by have := D8.R.out.2.2; simp; omega) ?_; intro v' wn ho hg hloc; obtain ⟨a1, n1, rfl, _⟩ := ho.form; have A0 := (D8.bl (bl_alloc (bl_refl _) (.cells #[.int .i64 (IntKind.i64.wrap (1 + r))] 2))).app1 ho hg hloc (Nat.le_refl _); clear cO fO zO; obtain ⟨cO, fO, zO⟩ := A0.X.out; clear A0)))
                all_goals
                  have hln : (s.P ++ [IntKind.i64.wrap (1 + r)]).length = s.P.length + 1 := by simp
                  rw [hln] at ho hloc
                  have A := (D8.bl (bl_alloc (bl_refl _) (.cells #[.int .i64 (IntKind.i64.wrap (1 + r))] 2))).app1 ho hg hloc (Nat.le_refl _)
                  clear ho hg hloc
                  go_wp2_with fail
                  go_meet
                  exact ⟨_, _, Lib.hid A.D, l1, by simp; omega, by simp; omega⟩
              case rest =>
                obtain ⟨pp', s', hD, l1', l2', l3'⟩ := hcut
                clear D D0 cO fO zO l1 l2 l3
                obtain ⟨w9, rfl⟩ : ∃ x : World, x = wc := ⟨_, rfl⟩
                have D := hD.out
                clear hD
                obtain ⟨_, ⟨b2', m2', k2', rfl⟩, _⟩ := D.O.shape
                obtain ⟨cO, fO, zO⟩ := D.X.out
                have DD := D.bl (bl_drew (bl_refl w9))
                go_wp2_with fail
                go_region_law ((first | (go_simp; go_at_call_of 71 (Value.int IntKind.i64 2); go_must (refine (dpick_any DD.S (by omega) (by omega)).mono ?_; rintro e w8 ⟨x2, rfl, x20, x21, hS8, hU8⟩; have DD := DD.upd hS8 hU8; (try have WW := And.intro (show w8.heap.size = w8.heap.size from rfl) trivial); clear cO fO zO; obtain ⟨cO, fO, zO⟩ := DD.X.out; (try have hxy := mul_small x20 x21 x30 x31)); go_wp2_with fail) | (go_simp; go_at_call_of 71 (Value.int IntKind.i64 3); go_must (refine (dpick_any DD.S (by omega) (by omega)).mono ?_; rintro e w8 ⟨x3, rfl, x30, x31, hS8, hU8⟩; have DD := DD.upd hS8 hU8; clear cO fO zO; obtain ⟨cO, fO, zO⟩ := DD.X.out; (try have hxy := mul_small x20 x21 x30 x31)); go_wp2_with fail) | (refine step_append_i1 (by rfl) _ _ (by rfl) (w.heap.size + 1) _ s'.G (by rfl) ((DD.bl (bl_alloc (bl_refl _) _)).O.2.2.1) w8.heap.size (IntKind.i64.wrap (x2 * x3)) (by unfold R64; rw [IntKind.wrap_i64]; omega) (by rfl) (Bx.new (b := w8.heap.size) w8 #[.int .i64 (IntKind.i64.wrap (x2 * x3))] 2 (by rfl)) (by omega) (by have := DD.R.out.2.2; simp; omega) ?_; intro v' wn ho hg hloc; obtain ⟨a1, n1, rfl, _⟩ := ho.form; have A0 := (DD.bl (bl_alloc (bl_refl _) (.cells #[.int .i64 (IntKind.i64.wrap (x2 * x3))] 2))).app2 ho hg hloc (Nat.le_refl _); clear cO fO zO; obtain ⟨cO, fO, zO⟩ := A0.X.out; clear A0)))
                all_goals
                  have hln : (s'.G ++ [IntKind.i64.wrap (x2 * x3)]).length = s'.G.length + 1 := by simp
                  rw [hln] at ho hloc
                  have A := (DD.bl (bl_alloc (bl_refl _) (.cells #[.int .i64 (IntKind.i64.wrap (x2 * x3))] 2))).app2 ho hg hloc (Nat.le_refl _)
                  clear ho hg hloc
                  go_wp2
                  go_roundw
                  case rel => exact ⟨c - 1, _, _, _, _, by go_num, by omega, by omega, A.D.more (by omega), l1', by show s'.P.length ≤ _; omega, by simp; omega⟩
                  case measure => simp only [intOf]; omega
            · obtain ⟨cO, fO, zO⟩ := D.X.out
              obtain ⟨cR, fR, zR⟩ := D.R.out
              go_wp2
              refine bodyPost_ret (v := .agg #[.slice b1 m1 k1, .slice b2 m2 k2, .slice b3 m3 k3]) (by simp only [results, Tryz.results64]; go_simp) rfl ?_
              exact srcq_set D.S D.U D.O hp (by omega) (by omega)
  · by_cases hx1 : x = 1
    · subst hx1
      go_wp2_with fail
      refine (draw2_any hS1 (by omega) (by omega)).mono ?_
      rintro e w2 ⟨n, d, rfl, hg, hd, hn, hS2, hU2⟩
      have xR2 := xR1.upd hU2 (by omega)
      have u2 := upd_trans u1 hU2
      go_wp2_with fail
      refine (spec_SourceOfFraction n d _).mono ?_
      rintro e w3 ⟨h, pp, g, rfl, hO, hb3⟩
      obtain ⟨⟨ha, hn', hc, rfl⟩, ⟨pa, pn, pc, rfl⟩, ⟨ga, gn, gc, rfl⟩⟩ := hO.shape
      have hl := srcFr_lenK n d
      have xR4 := (xR2.below hb3).alloc (.cells #[.slice ha hn' hc, .slice pa pn pc, .slice ga gn gc] 26)
      have xO4 : Bx (w3.alloc (.cells #[.slice ha hn' hc, .slice pa pn pc, .slice ga gn gc] 26)) w3.heap.size #[.slice ha hn' hc, .slice pa pn pc, .slice ga gn gc] := Bx.new (b := w3.heap.size) _ _ _ rfl
      have hz2 := xR2.out.2.2
      have O4 := (hO.mono (B' := w.heap.size + 1) (by omega)).alloc (.cells #[.slice ha hn' hc, .slice pa pn pc, .slice ga gn gc] 26)
      have S4 := (hS2.below hb3).below (bl_alloc (bl_refl _) (.cells #[.slice ha hn' hc, .slice pa pn pc, .slice ga gn gc] 26))
      have U4 := upd_bl u2 (bl_call hb3 (bl_alloc (bl_refl w3) (.cells #[.slice ha hn' hc, .slice pa pn pc, .slice ga gn gc] 26)))
      obtain ⟨cR, fR, zR⟩ := xR4.out
      obtain ⟨cO, fO, zO⟩ := xO4.out
      go_wp2
      refine bodyPost_ret (v := .agg #[.slice ha hn' hc, .slice pa pn pc, .slice ga gn gc]) (by simp only [results, Tryz.results64]; go_simp) rfl ?_
      exact srcq_set S4 U4 O4 hp (by omega) (by omega)
    · by_cases hx2 : x = 2
      · subst hx2
        go_wp2_with fail
        refine (specE_any _).mono ?_
        rintro e w3 ⟨h, pp, g, rfl, hO, hb3⟩
        obtain ⟨⟨ha, hn', hc, rfl⟩, ⟨pa, pn, pc, rfl⟩, ⟨ga, gn, gc, rfl⟩⟩ := hO.shape
        have hz1 := xR1.out.2.2
        have O4 := hO.mono (B' := w.heap.size + 1) (by omega)
        obtain ⟨cR, fR, zR⟩ := (xR1.below hb3).out
        go_wp2
        refine bodyPost_ret (v := .agg #[.slice ha hn' hc, .slice pa pn pc, .slice ga gn gc]) (by simp only [results, Tryz.results64]; go_simp) rfl ?_
        exact srcq_set (hS1.below hb3) (upd_bl u1 hb3) O4 hp (by omega) (srcE_lenK)
      · have e0 : (x == 0) = false := by simp [hx0]
        have e1 : (x == 1) = false := by simp [hx1]
        have e2 : (x == 2) = false := by simp [hx2]
        clear hx0 hx1 hx2
        go_wp2_with fail
        refine (dpick_any hS1 (by omega) (by omega)).mono ?_
        rintro e w5 ⟨r, rfl, r0, r1, hS5, hU5⟩
        have xR5 := xR1.upd hU5 (by omega)
        have u5 := upd_trans u1 hU5
        obtain ⟨t, ht⟩ : ∃ t, t = r - 3 := ⟨_, rfl⟩
        have hwt : IntKind.i64.wrap (r - 3) = t := by rw [IntKind.wrap_i64]; omega
        have htb : R64 t := by unfold R64; omega
        clear ht
        have D6 := dr_new hS5 u5 xR5 hp htb
        go_wp2_with fail
        obtain ⟨bO, hbO⟩ : ∃ bO, bO = w5.heap.size + 1 + 1 + 1 := ⟨_, rfl⟩
        rw [← hbO] at D6 ⊢
        generalize (((w5.alloc (.cells #[.int .i64 t] 2)).alloc (.cells #[] 2)).alloc (.cells #[] 2)).alloc (.cells #[.slice (some ⟨w5.heap.size, 0, none⟩) 1 1, .slice (some ⟨w5.heap.size + 1, 0, none⟩) 0 0, .slice (some ⟨w5.heap.size + 1 + 1, 0, none⟩) 0 0] 26) = w6 at *
        refine (dpick_any D6.S (by omega) (by omega)).mono ?_
        rintro e w7 ⟨c1, rfl, c10, c11, hS7, hU7⟩
        have D7 := D6.upd hS7 hU7
        clear D6 hS7 hU7 hbO hS5 hU5 xR5 u5 r0 r1 htb
        go_wp2_with fail
        go_loopw [8] (fun s8 wr => ∃ (c : Int) (h pp g : Value) (s : Src), s8 = .int .i64 c ∧ 0 ≤ c ∧ c ≤ 4 ∧ Dr w0 w wr p (N + 140 - 4 * c.toNat) bO h pp g s ∧ s.H.length ≤ 20 - c.toNat ∧ s.P.length ≤ 20 ∧ s.G.length ≤ 20 ∧ s.P.length ≤ s.G.length) (fun s8 _ => (intOf s8).toNat)
        case atStart => exact ⟨c1, _, _, _, _, rfl, by omega, by omega, D7.more (by omega), by simp; omega, by simp, by simp⟩
        case round =>
          clear D7
          obtain ⟨c, h, pp, g, s, rfl, hc0, hc4, D, l1, l2, l3⟩ := hrel
          obtain ⟨⟨b1, m1, k1, rfl⟩, ⟨b2, m2, k2, rfl⟩, ⟨b3, m3, k3, rfl⟩⟩ := D.O.shape
          by_cases hc1 : 0 < c
          · obtain ⟨cO, fO, zO⟩ := D.X.out
            have D0 := D.bl (bl_drew (bl_refl wr))
            go_wp2_with fail
            go_region_law ((first | (go_simp; go_at_call 71; go_must (refine (dpick_any D0.S (by omega) (by omega)).mono ?_; rintro e w8 ⟨r, rfl, r0, r1, hS8, hU8⟩; have D8 := D0.upd hS8 hU8; clear cO fO zO; obtain ⟨cO, fO, zO⟩ := D8.X.out); go_wp2_with fail) | (refine step_append_i1 (by rfl) _ _ (by rfl) (w.heap.size + 1) _ s.H (by rfl) ((D8.bl (bl_alloc (bl_refl _) _)).O.1) w8.heap.size (IntKind.i64.wrap (1 + r)) (by unfold R64; rw [IntKind.wrap_i64]; omega) (by rfl) (Bx.new (b := w8.heap.size) w8 #[.int .i64 (IntKind.i64.wrap (1 + r))] 2 (by rfl)) (by omega) (by have := D8.R.out.2.2; simp; omega) ?_; intro v' wn ho hg hloc; obtain ⟨a1, n1, rfl, _⟩ := ho.form; have A0 := (D8.bl (bl_alloc (bl_refl _) (.cells #[.int .i64 (IntKind.i64.wrap (1 + r))] 2))).app0 ho hg hloc (Nat.le_refl _); clear cO fO zO; obtain ⟨cO, fO, zO⟩ := A0.X.out; clear A0)))
            all_goals
              have hln : (s.H ++ [IntKind.i64.wrap (1 + r)]).length = s.H.length + 1 := by simp
              rw [hln] at ho hloc
              have A := (D8.bl (bl_alloc (bl_refl _) (.cells #[.int .i64 (IntKind.i64.wrap (1 + r))] 2))).app0 ho hg hloc (Nat.le_refl _)
              clear ho hg hloc
              go_wp2
              go_roundw
              case rel => exact ⟨c - 1, _, _, _, _, by go_num, by omega, by omega, A.D.more (by omega), by simp; omega, l2, l3⟩
              case measure => simp only [intOf]; omega
          · obtain ⟨cO, fO, zO⟩ := D.X.out
            go_wp2_with fail
            refine (dpick_any D.S (by omega) (by omega)).mono ?_
            rintro e w8 ⟨c2, rfl, c20, c21, hS8, hU8⟩
            have D8 := D.upd hS8 hU8
            clear cO fO zO hS8 hU8 D
            go_wp2_with fail
            go_loopw [9] (fun s9 wr => ∃ (c : Int) (h pp g : Value) (s : Src), s9 = .int .i64 c ∧ 0 ≤ c ∧ c ≤ 4 ∧ Dr w0 w wr p (N + 180 - 8 * c.toNat) bO h pp g s ∧ s.H.length ≤ 100 ∧ s.P.length ≤ 100 - c.toNat ∧ s.G.length ≤ 100 - c.toNat ∧ s.P.length ≤ s.G.length) (fun s9 _ => (intOf s9).toNat)
            case atStart => exact ⟨c2, _, _, _, _, rfl, by omega, by omega, D8.more (by omega), by omega, by omega, by omega⟩
            case round =>
              clear D8 l1 l2 l3
              obtain ⟨c, h, pp, g, s, rfl, hc0, hc4, D, l1, l2, l3⟩ := hrel
              obtain ⟨⟨b1, m1, k1, rfl⟩, ⟨b2, m2, k2, rfl⟩, ⟨b3, m3, k3, rfl⟩⟩ := D.O.shape
              by_cases hc1 : 0 < c
              · obtain ⟨cO, fO, zO⟩ := D.X.out
                have D0 := D.bl (bl_drew (bl_refl wr))
                go_wp2_with fail
                go_cut [62, 63, 64, 65, 66, 67, 68, 69] from 62 to 69 (fun _ _ _ _ _ _ _ _ wx => ∃ (pp' : Value) (s' : Src), Hid (Dr w0 w wx p (N + 180 - 8 * c.toNat + 2) bO (.slice b1 m1 k1) pp' (.slice b3 m3 k3) s') ∧ s'.H.length ≤ 100 ∧ s'.P.length ≤ 101 - c.toNat ∧ s'.G.length ≤ 100 - c.toNat ∧ s'.P.length ≤ s'.G.length + 1)
                case first =>
                  go_region_law ((first | (go_simp; go_at_call 71; go_must (refine (dpick_any D0.S (by omega) (by omega)).mono ?_; rintro e w8 ⟨r, rfl, r0, r1, hS8, hU8⟩; have D8 := D0.upd hS8 hU8; clear cO fO zO; obtain ⟨cO, fO, zO⟩ := D8.X.out); go_wp2_with fail) | (refine step_append_i1 (by rfl) _ _ (by rfl) (w.heap.size + 1) _ s.P (by rfl) ((D8.bl (bl_alloc (bl_refl _) _)).O.2.1) w8.heap.size (IntKind.i64.wrap (1 + r)) (by unfold R64; rw [IntKind.wrap_i64]; omega) (by rfl) (Bx.new (b := w8.heap.size) w8 #[.int .i64 (IntKind.i64.wrap (1 + r))] 2 (by rfl)) (by omega) (by have := D8.R.out.2.2; simp; omega) ?_; intro v' wn ho hg hloc; obtain ⟨a1, n1, rfl, _⟩ := ho.form; have A0 := (D8.bl (bl_alloc (bl_refl _) (.cells #[.int .i64 (IntKind.i64.wrap (1 + r))] 2))).app1 ho hg hloc (Nat.le_refl _); clear cO fO zO; obtain ⟨cO, fO, zO⟩ := A0.X.out; clear A0)))
                  all_goals
                    have hln : (s.P ++ [IntKind.i64.wrap (1 + r)]).length = s.P.length + 1 := by simp
                    rw [hln] at ho hloc
                    have A := (D8.bl (bl_alloc (bl_refl _) (.cells #[.int .i64 (IntKind.i64.wrap (1 + r))] 2))).app1 ho hg hloc (Nat.le_refl _)
                    clear ho hg hloc
                    go_wp2_with fail
                    go_meet
                    exact ⟨_, _, Lib.hid A.D, l1, by simp; omega, by simp; omega⟩
                case rest =>
                  obtain ⟨pp', s', hD, l1', l2', l3'⟩ := hcut
                  clear D D0 cO fO zO l1 l2 l3
                  obtain ⟨w9, rfl⟩ : ∃ x : World, x = wc := ⟨_, rfl⟩
                  have D := hD.out
                  clear hD
                  obtain ⟨_, ⟨b2', m2', k2', rfl⟩, _⟩ := D.O.shape
                  obtain ⟨cO, fO, zO⟩ := D.X.out
                  have DD := D.bl (bl_drew (bl_refl w9))
                  go_wp2_with fail
                  go_region_law ((first | (go_simp; go_at_call_of 71 (Value.int IntKind.i64 2); go_must (refine (dpick_any DD.S (by omega) (by omega)).mono ?_; rintro e w8 ⟨x2, rfl, x20, x21, hS8, hU8⟩; have DD := DD.upd hS8 hU8; (try have WW := And.intro (show w8.heap.size = w8.heap.size from rfl) trivial); clear cO fO zO; obtain ⟨cO, fO, zO⟩ := DD.X.out; (try have hxy := mul_small x20 x21 x30 x31)); go_wp2_with fail) | (go_simp; go_at_call_of 71 (Value.int IntKind.i64 3); go_must (refine (dpick_any DD.S (by omega) (by omega)).mono ?_; rintro e w8 ⟨x3, rfl, x30, x31, hS8, hU8⟩; have DD := DD.upd hS8 hU8; clear cO fO zO; obtain ⟨cO, fO, zO⟩ := DD.X.out; (try have hxy := mul_small x20 x21 x30 x31)); go_wp2_with fail) | (refine step_append_i1 (by rfl) _ _ (by rfl) (w.heap.size + 1) _ s'.G (by rfl) ((DD.bl (bl_alloc (bl_refl _) _)).O.2.2.1) w8.heap.size (IntKind.i64.wrap (x2 * x3)) (by unfold R64; rw [IntKind.wrap_i64]; omega) (by rfl) (Bx.new (b := w8.heap.size) w8 #[.int .i64 (IntKind.i64.wrap (x2 * x3))] 2 (by rfl)) (by omega) (by have := DD.R.out.2.2; simp; omega) ?_; intro v' wn ho hg hloc; obtain ⟨a1, n1, rfl, _⟩ := ho.form; have A0 := (DD.bl (bl_alloc (bl_refl _) (.cells #[.int .i64 (IntKind.i64.wrap (x2 * x3))] 2))).app2 ho hg hloc (Nat.le_refl _); clear cO fO zO; obtain ⟨cO, fO, zO⟩ := A0.X.out; clear A0)))
                  all_goals
                    have hln : (s'.G ++ [IntKind.i64.wrap (x2 * x3)]).length = s'.G.length + 1 := by simp
                    rw [hln] at ho hloc
                    have A := (DD.bl (bl_alloc (bl_refl _) (.cells #[.int .i64 (IntKind.i64.wrap (x2 * x3))] 2))).app2 ho hg hloc (Nat.le_refl _)
                    clear ho hg hloc
                    go_wp2
                    go_roundw
                    case rel => exact ⟨c - 1, _, _, _, _, by go_num, by omega, by omega, A.D.more (by omega), l1', by show s'.P.length ≤ _; omega, by simp; omega⟩
                    case measure => simp only [intOf]; omega
              · obtain ⟨cO, fO, zO⟩ := D.X.out
                obtain ⟨cR, fR, zR⟩ := D.R.out
                go_wp2
                refine bodyPost_ret (v := .agg #[.slice b1 m1 k1, .slice b2 m2 k2, .slice b3 m3 k3]) (by simp only [results, Tryz.results64]; go_simp) rfl ?_
                exact srcq_set D.S D.U D.O hp (by omega) (by omega)

end Go.Proofs.YtndblondleclpaaGreatDoor
