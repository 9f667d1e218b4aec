/- A source in a box of the call's own, words beside it; a word of a period, as the reference reads it. Each theorem names its conditions. -/
import Derived.Test.YtndblondleclpaaDoorRdS
import Derived.Test.YtndblondleclpaaDoorStM
import Derived.Test.YtndblondleclpaaDoorLawBs
import Derived.Test.YtndblondleclpaaDoorApp
namespace Go.Proofs.YtndblondleclpaaDoor
open Go.RowKit
set_option linter.unusedVariables false
set_option linter.unusedSimpArgs false

theorem only_setB (w : World) (p : Addr) (u : Value) : Only w (w.setCell p u) (fun k => k = p.block) := ⟨rfl, rfl, rfl, by simp, fun k hk hn => Below.heap_setCell w p u k hn⟩
theorem Own.farB {w : World} {B : Nat} {v : Value} {xs : List Int} (h : Own w B v xs) {p : Addr} (hp : ∀ k, v.ownBlock = some k → k ≠ p.block) (u : Value) : Own (w.setCell p u) B v xs := h.only (only_setB w p u) hp
theorem Bx.onlyB {w w' : World} {b : Nat} {cs : Array Value} {S : Nat → Prop} (h : Bx w b cs) (ho : Only w w' S) (hn : ¬ S b) : Bx w' b cs := by
  have hl := h.out.2.2
  obtain ⟨t, h⟩ := h
  exact ⟨t, (ho.block b hl hn).trans h⟩
theorem OwX.only {w w' : World} {B g n c : Nat} {cs : List Value} {S : Nat → Prop} (h : OwX w B (.slice (some ⟨g, 0, none⟩) n c) cs) (ho : Only w w' S) (hn : ¬ S g) : OwX w' B (.slice (some ⟨g, 0, none⟩) n c) cs := by
  have hg := h.lt g rfl
  refine ⟨h.1, ?_⟩
  rcases h.2 with ⟨e, _⟩ | ⟨g', cap, e, hB, h1, h2, h3, h4, h5⟩
  · cases e
  · have eg : g = g' := by injection e with e _ _; injection e with e; injection e with e
    subst eg
    have hb : w'.heap[g]? = w.heap[g]? := ho.block g hg.2 hn
    refine .inr ⟨g, cap, e, hB, h1, h2, Nat.lt_of_lt_of_le h3 ho.size, fun i b hi => ?_, fun j hj => ?_⟩
    · rw [World.cell?_of_block (a := ⟨g, i, none⟩) hb]; exact h4 i b hi
    · rw [World.cell?_of_block (a := ⟨g, j, none⟩) hb, World.frozen?_of_block (a := ⟨g, j, none⟩) hb]; exact h5 j hj

/-- Within a call that began at w: its result's box, a source in block b, a list of words in block gw. -/
structure Bg (w wr : World) (b gw cw : Nat) (ws : List (List UInt8)) (h pp g : Value) (s : Src) : Prop where
  X : Bx wr b #[h, pp, g]
  O : OwnS wr (w.heap.size + 1) h pp g s
  nb : ∀ k, blks h pp g k → k ≠ b
  bb : w.heap.size + 1 ≤ b
  R : Bx wr w.heap.size #[.slice none 0 0, .slice none 0 0, .slice none 0 0]
  B : Bl w wr
  W : OwS wr (w.heap.size + 1) (.slice (some ⟨gw, 0, none⟩) ws.length cw) ws
  nw : gw ≠ b ∧ ∀ k, blks h pp g k → k ≠ gw
theorem Bg.bl {w wr w2 : World} {b gw cw : Nat} {ws : List (List UInt8)} {h pp g : Value} {s : Src} (D : Bg w wr b gw cw ws h pp g s) (hb : Bl wr w2) : Bg w w2 b gw cw ws h pp g s :=
  ⟨D.X.below hb, D.O.below hb, D.nb, D.bb, D.R.below hb, bl_call D.B hb, D.W.below hb, D.nw⟩
theorem Bg.app0 {w w1 wn : World} {b gw cw M : Nat} {ws : List (List UInt8)} {h pp g v' : Value} {s : Src} {ys : List Int} (D : Bg w w1 b gw cw ws h pp g s) (ho : Own wn (w.heap.size + 1) v' ys) (hg : w1.grownBy wn h.ownBlock) (hl : v'.ownBlock = h.ownBlock ∨ v'.ownBlock = some M) (hM : w1.heap.size ≤ M) :
    Bx wn b #[h, pp, g] ∧ Bg w (wn.setCell ⟨b, 0, none⟩ v') b gw cw ws v' pp g ⟨ys, s.P, s.G⟩ := by
  have hbl : b < w1.heap.size := D.X.out.2.2
  have hgw := (D.W.lt gw rfl)
  have ho1 : Only w1 wn (fun k => h.ownBlock = some k) := Only.of_grown hg (fun k e => e)
  have hrow : ∀ k, h.ownBlock = some k → w.heap.size + 1 ≤ k ∧ k < w1.heap.size := fun k e => (D.O.1).lt k e
  have xn := D.X.onlyB ho1 (fun e => D.nb b (.inl e) rfl)
  have n1 : ∀ k, v'.ownBlock = some k → k ≠ b := fun k e => by
    rcases hl with q | q
    · have e := q ▸ e; exact D.nb k (.inl e)
    · rw [q] at e; injection e with e; omega
  have n2 : ∀ k, v'.ownBlock = some k → k ≠ gw := fun k e => by
    rcases hl with q | q
    · have e := q ▸ e; exact D.nw.2 k (.inl e)
    · rw [q] at e; injection e with e; omega
  have fr : ∀ {u : Value} {xs : List Int}, Own w1 (w.heap.size + 1) u xs → Apart h u → Own wn (w.heap.size + 1) u xs := fun hu ha => hu.only ho1 (fun k e q => ha k q e)
  have ap : ∀ {u : Value} {xs : List Int}, Own w1 (w.heap.size + 1) u xs → Apart h u → Apart v' u := fun hu ha k e q => by
    rcases hl with z | z
    · exact ha k (z ▸ e) q
    · rw [z] at e; injection e with e; have := (hu.lt k q).2; omega
  have BN : Bl w wn := bl_grownX D.B hg (fun k e => by have := hrow k e; omega)
  refine ⟨xn, ⟨xn.set 0 _, ?_, ?_, D.bb, (D.R.onlyB ho1 (fun e => by have := (hrow _ e).1; omega)).far (p := ⟨b, 0, none⟩) (by have := D.bb; simp; omega) _, bl_set BN (by have := D.bb; simp; omega) _, ((D.W.only ho1 (fun e => D.nw.2 _ (.inl e) rfl)).only (only_setB wn ⟨b, 0, none⟩ v') (fun e => D.nw.1 e)), D.nw.1, ?_⟩⟩
  · exact ⟨(Own.farB ho (p := ⟨b, 0, none⟩) (fun k e => n1 k e) v'), (Own.farB (fr D.O.2.1 D.O.2.2.2.1) (p := ⟨b, 0, none⟩) (fun k e => D.nb k (.inr (.inl e))) v'), (Own.farB (fr D.O.2.2.1 D.O.2.2.2.2.1) (p := ⟨b, 0, none⟩) (fun k e => D.nb k (.inr (.inr e))) v'), ap D.O.2.1 D.O.2.2.2.1, ap D.O.2.2.1 D.O.2.2.2.2.1, D.O.2.2.2.2.2⟩
  · intro k hk
    rcases hk with e | e | e
    · exact n1 k e
    · exact D.nb k (.inr (.inl e))
    · exact D.nb k (.inr (.inr e))
  · intro k hk
    rcases hk with e | e | e
    · exact n2 k e
    · exact D.nw.2 k (.inr (.inl e))
    · exact D.nw.2 k (.inr (.inr e))
theorem Bg.app1 {w w1 wn : World} {b gw cw M : Nat} {ws : List (List UInt8)} {h pp g v' : Value} {s : Src} {ys : List Int} (D : Bg w w1 b gw cw ws h pp g s) (ho : Own wn (w.heap.size + 1) v' ys) (hg : w1.grownBy wn pp.ownBlock) (hl : v'.ownBlock = pp.ownBlock ∨ v'.ownBlock = some M) (hM : w1.heap.size ≤ M) :
    Bx wn b #[h, pp, g] ∧ Bg w (wn.setCell ⟨b, 1, none⟩ v') b gw cw ws h v' g ⟨s.H, ys, s.G⟩ := by
  have hbl : b < w1.heap.size := D.X.out.2.2
  have hgw := (D.W.lt gw rfl)
  have ho1 : Only w1 wn (fun k => pp.ownBlock = some k) := Only.of_grown hg (fun k e => e)
  have hrow : ∀ k, pp.ownBlock = some k → w.heap.size + 1 ≤ k ∧ k < w1.heap.size := fun k e => (D.O.2.1).lt k e
  have xn := D.X.onlyB ho1 (fun e => D.nb b (.inr (.inl e)) rfl)
  have n1 : ∀ k, v'.ownBlock = some k → k ≠ b := fun k e => by
    rcases hl with q | q
    · have e := q ▸ e; exact D.nb k (.inr (.inl e))
    · rw [q] at e; injection e with e; omega
  have n2 : ∀ k, v'.ownBlock = some k → k ≠ gw := fun k e => by
    rcases hl with q | q
    · have e := q ▸ e; exact D.nw.2 k (.inr (.inl e))
    · rw [q] at e; injection e with e; omega
  have fr : ∀ {u : Value} {xs : List Int}, Own w1 (w.heap.size + 1) u xs → Apart pp u → Own wn (w.heap.size + 1) u xs := fun hu ha => hu.only ho1 (fun k e q => ha k q e)
  have ap : ∀ {u : Value} {xs : List Int}, Own w1 (w.heap.size + 1) u xs → Apart pp u → Apart v' u := fun hu ha k e q => by
    rcases hl with z | z
    · exact ha k (z ▸ e) q
    · rw [z] at e; injection e with e; have := (hu.lt k q).2; omega
  have BN : Bl w wn := bl_grownX D.B hg (fun k e => by have := hrow k e; omega)
  refine ⟨xn, ⟨xn.set 1 _, ?_, ?_, D.bb, (D.R.onlyB ho1 (fun e => by have := (hrow _ e).1; omega)).far (p := ⟨b, 1, none⟩) (by have := D.bb; simp; omega) _, bl_set BN (by have := D.bb; simp; omega) _, ((D.W.only ho1 (fun e => D.nw.2 _ (.inr (.inl e)) rfl)).only (only_setB wn ⟨b, 1, none⟩ v') (fun e => D.nw.1 e)), D.nw.1, ?_⟩⟩
  · exact ⟨(Own.farB (fr D.O.1 (Apart.symm D.O.2.2.2.1)) (p := ⟨b, 1, none⟩) (fun k e => D.nb k (.inl e)) v'), (Own.farB ho (p := ⟨b, 1, none⟩) (fun k e => n1 k e) v'), (Own.farB (fr D.O.2.2.1 D.O.2.2.2.2.2) (p := ⟨b, 1, none⟩) (fun k e => D.nb k (.inr (.inr e))) v'), Apart.symm (ap D.O.1 (Apart.symm D.O.2.2.2.1)), D.O.2.2.2.2.1, ap D.O.2.2.1 D.O.2.2.2.2.2⟩
  · intro k hk
    rcases hk with e | e | e
    · exact D.nb k (.inl e)
    · exact n1 k e
    · exact D.nb k (.inr (.inr e))
  · intro k hk
    rcases hk with e | e | e
    · exact D.nw.2 k (.inl e)
    · exact n2 k e
    · exact D.nw.2 k (.inr (.inr e))
theorem Bg.app2 {w w1 wn : World} {b gw cw M : Nat} {ws : List (List UInt8)} {h pp g v' : Value} {s : Src} {ys : List Int} (D : Bg w w1 b gw cw ws h pp g s) (ho : Own wn (w.heap.size + 1) v' ys) (hg : w1.grownBy wn g.ownBlock) (hl : v'.ownBlock = g.ownBlock ∨ v'.ownBlock = some M) (hM : w1.heap.size ≤ M) :
    Bx wn b #[h, pp, g] ∧ Bg w (wn.setCell ⟨b, 2, none⟩ v') b gw cw ws h pp v' ⟨s.H, s.P, ys⟩ := by
  have hbl : b < w1.heap.size := D.X.out.2.2
  have hgw := (D.W.lt gw rfl)
  have ho1 : Only w1 wn (fun k => g.ownBlock = some k) := Only.of_grown hg (fun k e => e)
  have hrow : ∀ k, g.ownBlock = some k → w.heap.size + 1 ≤ k ∧ k < w1.heap.size := fun k e => (D.O.2.2.1).lt k e
  have xn := D.X.onlyB ho1 (fun e => D.nb b (.inr (.inr e)) rfl)
  have n1 : ∀ k, v'.ownBlock = some k → k ≠ b := fun k e => by
    rcases hl with q | q
    · have e := q ▸ e; exact D.nb k (.inr (.inr e))
    · rw [q] at e; injection e with e; omega
  have n2 : ∀ k, v'.ownBlock = some k → k ≠ gw := fun k e => by
    rcases hl with q | q
    · have e := q ▸ e; exact D.nw.2 k (.inr (.inr e))
    · rw [q] at e; injection e with e; omega
  have fr : ∀ {u : Value} {xs : List Int}, Own w1 (w.heap.size + 1) u xs → Apart g u → Own wn (w.heap.size + 1) u xs := fun hu ha => hu.only ho1 (fun k e q => ha k q e)
  have ap : ∀ {u : Value} {xs : List Int}, Own w1 (w.heap.size + 1) u xs → Apart g u → Apart v' u := fun hu ha k e q => by
    rcases hl with z | z
    · exact ha k (z ▸ e) q
    · rw [z] at e; injection e with e; have := (hu.lt k q).2; omega
  have BN : Bl w wn := bl_grownX D.B hg (fun k e => by have := hrow k e; omega)
  refine ⟨xn, ⟨xn.set 2 _, ?_, ?_, D.bb, (D.R.onlyB ho1 (fun e => by have := (hrow _ e).1; omega)).far (p := ⟨b, 2, none⟩) (by have := D.bb; simp; omega) _, bl_set BN (by have := D.bb; simp; omega) _, ((D.W.only ho1 (fun e => D.nw.2 _ (.inr (.inr e)) rfl)).only (only_setB wn ⟨b, 2, none⟩ v') (fun e => D.nw.1 e)), D.nw.1, ?_⟩⟩
  · exact ⟨(Own.farB (fr D.O.1 (Apart.symm D.O.2.2.2.2.1)) (p := ⟨b, 2, none⟩) (fun k e => D.nb k (.inl e)) v'), (Own.farB (fr D.O.2.1 (Apart.symm D.O.2.2.2.2.2)) (p := ⟨b, 2, none⟩) (fun k e => D.nb k (.inr (.inl e))) v'), (Own.farB ho (p := ⟨b, 2, none⟩) (fun k e => n1 k e) v'), D.O.2.2.2.1, Apart.symm (ap D.O.1 (Apart.symm D.O.2.2.2.2.1)), Apart.symm (ap D.O.2.1 (Apart.symm D.O.2.2.2.2.2))⟩
  · intro k hk
    rcases hk with e | e | e
    · exact D.nb k (.inl e)
    · exact D.nb k (.inr (.inl e))
    · exact n1 k e
  · intro k hk
    rcases hk with e | e | e
    · exact D.nw.2 k (.inl e)
    · exact D.nw.2 k (.inr (.inl e))
    · exact n2 k e

/-! A word of a period. -/
theorem ws_bad {l : List UInt8} (h : rdec (spl 43 l).head! = none) : wordS l = none := by unfold wordS; rw [h]
theorem ws_one {l : List UInt8} {n : Int} (h : rdec (spl 43 l).head! = some n) (h1 : (spl 43 l).length = 1) : wordS l = some (n, 0) := by unfold wordS; rw [h]; simp only; rw [if_pos h1]
theorem ws_many {l : List UInt8} (h1 : (spl 43 l).length ≠ 1) (h2 : (spl 43 l).length ≠ 2) : wordS l = none := by
  unfold wordS
  cases rdec (spl 43 l).head! with
  | none => rfl
  | some n => simp only; rw [if_neg h1, if_neg h2]
theorem ws_two {l a b : List UInt8} {n : Int} {o : Option Int} (hs : spl 43 l = [a, b]) (h : rdec a = some n) (h2 : rdec b = o) : wordS l = o.bind fun g => if 0 < g then some (n, g) else none := by
  unfold wordS; rw [hs]; simp only [head1, h, List.length_cons, List.length_nil]
  rw [if_neg (by decide), if_pos (by decide)]
  simp only [show ∀ (x y : List UInt8), (x :: [y])[1]! = y from fun _ _ => rfl]
  rw [h2]
  cases o <;> rfl
def WrdP (l : List UInt8) (w : World) (e : Ending) (w' : World) : Prop := ∃ n g : Int, e = .returned (.tuple #[.int .i64 n, .int .i64 g, .bool (wordS l).isSome]) ∧ (∀ x, wordS l = some x → x = (n, g)) ∧ Bl w w'
theorem wrd_no {l : List UInt8} {w w' : World} {n g : Int} (h : wordS l = none) (hb : Bl w w') : WrdP l w (.returned (.tuple #[.int .i64 n, .int .i64 g, .bool false])) w' :=
  ⟨n, g, by rw [h]; rfl, fun x hx => (by rw [h] at hx; cases hx), hb⟩
theorem wrd_ok {l : List UInt8} {w w' : World} {n g : Int} (h : wordS l = some (n, g)) (hb : Bl w w') : WrdP l w (.returned (.tuple #[.int .i64 n, .int .i64 g, .bool true])) w' :=
  ⟨n, g, by rw [h]; rfl, fun x hx => (by rw [h] at hx; exact (Option.some.inj hx).symm), hb⟩

theorem spl_lenB {c : UInt8} : ∀ (n : Nat) (l : List UInt8), l.length ≤ n → ∀ q ∈ spl c l, q.length ≤ l.length := by
  intro n
  induction n with
  | zero =>
    intro l h q hq
    obtain rfl := List.eq_nil_of_length_eq_zero (Nat.le_zero.1 h)
    simp [spl] at hq; subst hq; simp
  | succ n ih =>
    intro l h q hq
    rcases spl_cases c l with ⟨h1, e⟩ | ⟨x, y, rfl, ha, e⟩
    · rw [e] at hq; simp at hq; subst hq; exact Nat.le_refl _
    · rw [e] at hq
      rcases List.mem_cons.1 hq with rfl | hq
      · simp
      · have := ih y (by simp at h; omega) q hq
        simp; omega
theorem spl_numB (c : UInt8) : ∀ l : List UInt8, (spl c l).length ≤ l.length + 1
  | [] => by simp [spl]
  | b :: l => by
    have := spl_numB c l
    have h2 := List.length_pos_iff.2 (spl_ne c l)
    rw [spl]
    split
    · simp; omega
    · simp; omega

set_option maxRecDepth 100000 in
set_option maxHeartbeats 6400000 in
theorem lwrd_any (s : ByteArray) (w : World) (hs : s.size ≤ 1048577) :
    Calls Tryd.prog 44 #[.string s] w (WrdP s.data.toList w) := by
  obtain ⟨l, hl⟩ : ∃ l, s.data.toList = l := ⟨_, rfl⟩
  have hln : l.length ≤ 1048577 := by rw [← hl, ← Lib.size_eq s]; exact hs
  have HL := Lib.hid hl
  clear hl
  obtain ⟨x0, rs, hsp⟩ := spl_cons 43 l
  have hx0 : x0.length ≤ 1048577 := by have := spl_lenB (c := 43) _ l (Nat.le_refl _) x0 (by rw [hsp]; simp); omega
  have HSP := Lib.hid hsp
  have HX0 := Lib.hid (show (spl 43 l).head! = x0 by rw [hsp]; rfl)
  obtain ⟨n, hn⟩ : ∃ n, rs.length + 1 = n := ⟨_, rfl⟩
  have HN := Lib.hid (show (spl 43 l).length = n by rw [hsp, ← hn]; rfl)
  have hn0 : 0 < n := by omega
  have hnb : n ≤ 9223372036854775807 := by
    have := spl_numB 43 l
    rw [hsp, List.length_cons, hn] at this
    omega
  clear hsp
  obtain ⟨X, hX⟩ : ∃ X : ByteArray, (⟨x0.toArray⟩ : ByteArray) = X := ⟨_, rfl⟩
  have HXD := Lib.hid (show X.data.toList = x0 by rw [← hX])
  have HXX := Lib.hid hX
  have HXS := Lib.hid (show X.size ≤ 2000000 by rw [Lib.size_eq X, HXD.out]; omega)
  clear hX hn
  obtain ⟨o, ho⟩ : ∃ o, rdec x0 = o := ⟨_, rfl⟩
  have HRD := Lib.hid (show rdec (spl 43 l).head! = o by rw [HX0.out]; exact ho)
  have HRX := Lib.hid (show rdec X.data.toList = o by rw [HXD.out]; exact ho)
  have HR0 := Lib.hid ho
  clear ho
  rw [HL.out]
  by_cases hn1 : n = 1
  · subst hn1
    have q1 : (((1 : Nat) : Int) == 1) = true := rfl
    cases o with
    | none =>
      have HB := Lib.hid (ws_bad HRD.out)
      go_enter Tryd.func44, Tryd.ntmps44
      go_wp2_with fail
      have HSPL := lspl_any s 43 w (by omega)
      rw [HL.out, HN.out] at HSPL
      refine HSPL.mono ?_
      clear HSPL
      rintro e w1 ⟨g, c, rfl, ho, B1⟩
      have HO := Lib.hid ho
      have hc0 : w1.cell? ⟨g, 0, none⟩ = some (.string X) := by rw [← HXX.out]; exact HO.out.cell (cS_get (by rw [HSP.out]; rfl))
      clear ho
      go_wp2_with fail
      have HNUM := lnum_any X w1 HXS.out
      rw [HRX.out] at HNUM
      refine HNUM.mono ?_
      clear HNUM
      rintro e w2 ⟨rfl, B2'⟩
      have B2 := bl_call B1 B2'
      go_wp2
      refine bodyPost_ret (v := .tuple #[.int .i64 0, .int .i64 0, .bool false]) (by simp only [results, Tryd.results44]; go_simp) rfl ?_
      exact wrd_no HB.out B2
    | some m =>
      have HG := Lib.hid (ws_one HRD.out HN.out)
      go_enter Tryd.func44, Tryd.ntmps44
      go_wp2_with fail
      have HSPL := lspl_any s 43 w (by omega)
      rw [HL.out, HN.out] at HSPL
      refine HSPL.mono ?_
      clear HSPL
      rintro e w1 ⟨g, c, rfl, ho, B1⟩
      have HO := Lib.hid ho
      have hc0 : w1.cell? ⟨g, 0, none⟩ = some (.string X) := by rw [← HXX.out]; exact HO.out.cell (cS_get (by rw [HSP.out]; rfl))
      clear ho
      go_wp2_with fail
      have HNUM := lnum_any X w1 HXS.out
      rw [HRX.out] at HNUM
      refine HNUM.mono ?_
      clear HNUM
      rintro e w2 ⟨rfl, B2'⟩
      have B2 := bl_call B1 B2'
      go_wp2
      refine bodyPost_ret (v := .tuple #[.int .i64 m, .int .i64 0, .bool true]) (by simp only [results, Tryd.results44]; go_simp) rfl ?_
      exact wrd_ok HG.out B2
  by_cases hn2 : n = 2
  · subst hn2
    obtain ⟨y, hy⟩ : ∃ y, spl 43 l = [x0, y] := by
      have h1 := HSP.out
      have h2 := HN.out
      rw [h1] at h2 ⊢
      match rs, h2 with
      | [y], _ => exact ⟨y, rfl⟩
    have HY := Lib.hid hy
    have hyl : y.length ≤ 1048577 := by have := spl_lenB (c := 43) _ l (Nat.le_refl _) y (by rw [hy]; simp); omega
    obtain ⟨Y, hY⟩ : ∃ Y : ByteArray, (⟨y.toArray⟩ : ByteArray) = Y := ⟨_, rfl⟩
    have HYD := Lib.hid (show Y.data.toList = y by rw [← hY])
    have HYY := Lib.hid hY
    have HYS := Lib.hid (show Y.size ≤ 2000000 by rw [Lib.size_eq Y, HYD.out]; omega)
    clear hy hY hn1
    obtain ⟨o2, ho2⟩ : ∃ o, rdec y = o := ⟨_, rfl⟩
    have HRY := Lib.hid (show rdec Y.data.toList = o2 by rw [HYD.out]; exact ho2)
    have HR2 := Lib.hid ho2
    clear ho2
    cases o with
    | none =>
      have HB := Lib.hid (ws_bad HRD.out)
      cases o2 with
      | none =>
        go_enter Tryd.func44, Tryd.ntmps44
        go_wp2_with fail
        have HSPL := lspl_any s 43 w (by omega)
        rw [HL.out, HN.out] at HSPL
        refine HSPL.mono ?_
        clear HSPL
        rintro e w1 ⟨g, c, rfl, ho, B1⟩
        have HO := Lib.hid ho
        have hc0 : w1.cell? ⟨g, 0, none⟩ = some (.string X) := by rw [← HXX.out]; exact HO.out.cell (cS_get (by rw [HSP.out]; rfl))
        clear ho
        go_wp2_with fail
        have HNUM := lnum_any X w1 HXS.out
        rw [HRX.out] at HNUM
        refine HNUM.mono ?_
        clear HNUM
        rintro e w2 ⟨rfl, B2'⟩
        have B2 := bl_call B1 B2'
        have hcy : w2.cell? ⟨g, 1, none⟩ = some (.string Y) := by
          have hc : w1.cell? ⟨g, 1, none⟩ = some (.string Y) := by rw [← HYY.out]; exact HO.out.cell (cS_get (by rw [HY.out]; rfl))
          exact (B2'.cell (p := ⟨g, 1, none⟩) (cell_lt hc)).trans hc
        clear hc0
        go_wp2_with fail
        have HNUM := lnum_any Y w2 HYS.out
        rw [HRY.out] at HNUM
        refine HNUM.mono ?_
        clear HNUM
        rintro e w3 ⟨rfl, B3'⟩
        have B3 := bl_call B2 B3'
        go_wp2
        refine bodyPost_ret (v := .tuple #[.int .i64 0, .int .i64 0, .bool false]) (by simp only [results, Tryd.results44]; go_simp) rfl ?_
        exact wrd_no HB.out B3
      | some y2 =>
        go_enter Tryd.func44, Tryd.ntmps44
        go_wp2_with fail
        have HSPL := lspl_any s 43 w (by omega)
        rw [HL.out, HN.out] at HSPL
        refine HSPL.mono ?_
        clear HSPL
        rintro e w1 ⟨g, c, rfl, ho, B1⟩
        have HO := Lib.hid ho
        have hc0 : w1.cell? ⟨g, 0, none⟩ = some (.string X) := by rw [← HXX.out]; exact HO.out.cell (cS_get (by rw [HSP.out]; rfl))
        clear ho
        go_wp2_with fail
        have HNUM := lnum_any X w1 HXS.out
        rw [HRX.out] at HNUM
        refine HNUM.mono ?_
        clear HNUM
        rintro e w2 ⟨rfl, B2'⟩
        have B2 := bl_call B1 B2'
        have hcy : w2.cell? ⟨g, 1, none⟩ = some (.string Y) := by
          have hc : w1.cell? ⟨g, 1, none⟩ = some (.string Y) := by rw [← HYY.out]; exact HO.out.cell (cS_get (by rw [HY.out]; rfl))
          exact (B2'.cell (p := ⟨g, 1, none⟩) (cell_lt hc)).trans hc
        clear hc0
        go_wp2_with fail
        have HNUM := lnum_any Y w2 HYS.out
        rw [HRY.out] at HNUM
        refine HNUM.mono ?_
        clear HNUM
        rintro e w3 ⟨rfl, B3'⟩
        have B3 := bl_call B2 B3'
        go_wp2
        refine bodyPost_ret (v := .tuple #[.int .i64 0, .int .i64 y2, .bool false]) (by simp only [results, Tryd.results44]; go_simp) rfl ?_
        exact wrd_no HB.out B3
    | some m =>
      cases o2 with
      | none =>
        have HB := Lib.hid (ws_two HY.out HR0.out HR2.out)
        go_enter Tryd.func44, Tryd.ntmps44
        go_wp2_with fail
        have HSPL := lspl_any s 43 w (by omega)
        rw [HL.out, HN.out] at HSPL
        refine HSPL.mono ?_
        clear HSPL
        rintro e w1 ⟨g, c, rfl, ho, B1⟩
        have HO := Lib.hid ho
        have hc0 : w1.cell? ⟨g, 0, none⟩ = some (.string X) := by rw [← HXX.out]; exact HO.out.cell (cS_get (by rw [HSP.out]; rfl))
        clear ho
        go_wp2_with fail
        have HNUM := lnum_any X w1 HXS.out
        rw [HRX.out] at HNUM
        refine HNUM.mono ?_
        clear HNUM
        rintro e w2 ⟨rfl, B2'⟩
        have B2 := bl_call B1 B2'
        have hcy : w2.cell? ⟨g, 1, none⟩ = some (.string Y) := by
          have hc : w1.cell? ⟨g, 1, none⟩ = some (.string Y) := by rw [← HYY.out]; exact HO.out.cell (cS_get (by rw [HY.out]; rfl))
          exact (B2'.cell (p := ⟨g, 1, none⟩) (cell_lt hc)).trans hc
        clear hc0
        go_wp2_with fail
        have HNUM := lnum_any Y w2 HYS.out
        rw [HRY.out] at HNUM
        refine HNUM.mono ?_
        clear HNUM
        rintro e w3 ⟨rfl, B3'⟩
        have B3 := bl_call B2 B3'
        go_wp2
        refine bodyPost_ret (v := .tuple #[.int .i64 m, .int .i64 0, .bool false]) (by simp only [results, Tryd.results44]; go_simp) rfl ?_
        exact wrd_no HB.out B3
      | some y2 =>
        by_cases hp : 0 < y2
        · have HG := Lib.hid (show wordS l = some (m, y2) by rw [ws_two HY.out HR0.out HR2.out]; simp [hp])
          go_enter Tryd.func44, Tryd.ntmps44
          go_wp2_with fail
          have HSPL := lspl_any s 43 w (by omega)
          rw [HL.out, HN.out] at HSPL
          refine HSPL.mono ?_
          clear HSPL
          rintro e w1 ⟨g, c, rfl, ho, B1⟩
          have HO := Lib.hid ho
          have hc0 : w1.cell? ⟨g, 0, none⟩ = some (.string X) := by rw [← HXX.out]; exact HO.out.cell (cS_get (by rw [HSP.out]; rfl))
          clear ho
          go_wp2_with fail
          have HNUM := lnum_any X w1 HXS.out
          rw [HRX.out] at HNUM
          refine HNUM.mono ?_
          clear HNUM
          rintro e w2 ⟨rfl, B2'⟩
          have B2 := bl_call B1 B2'
          have hcy : w2.cell? ⟨g, 1, none⟩ = some (.string Y) := by
            have hc : w1.cell? ⟨g, 1, none⟩ = some (.string Y) := by rw [← HYY.out]; exact HO.out.cell (cS_get (by rw [HY.out]; rfl))
            exact (B2'.cell (p := ⟨g, 1, none⟩) (cell_lt hc)).trans hc
          clear hc0
          go_wp2_with fail
          have HNUM := lnum_any Y w2 HYS.out
          rw [HRY.out] at HNUM
          refine HNUM.mono ?_
          clear HNUM
          rintro e w3 ⟨rfl, B3'⟩
          have B3 := bl_call B2 B3'
          go_wp2
          refine bodyPost_ret (v := .tuple #[.int .i64 m, .int .i64 y2, .bool true]) (by simp only [results, Tryd.results44]; go_simp) rfl ?_
          exact wrd_ok HG.out B3
        · have HB := Lib.hid (show wordS l = none by rw [ws_two HY.out HR0.out HR2.out]; simp [hp])
          go_enter Tryd.func44, Tryd.ntmps44
          go_wp2_with fail
          have HSPL := lspl_any s 43 w (by omega)
          rw [HL.out, HN.out] at HSPL
          refine HSPL.mono ?_
          clear HSPL
          rintro e w1 ⟨g, c, rfl, ho, B1⟩
          have HO := Lib.hid ho
          have hc0 : w1.cell? ⟨g, 0, none⟩ = some (.string X) := by rw [← HXX.out]; exact HO.out.cell (cS_get (by rw [HSP.out]; rfl))
          clear ho
          go_wp2_with fail
          have HNUM := lnum_any X w1 HXS.out
          rw [HRX.out] at HNUM
          refine HNUM.mono ?_
          clear HNUM
          rintro e w2 ⟨rfl, B2'⟩
          have B2 := bl_call B1 B2'
          have hcy : w2.cell? ⟨g, 1, none⟩ = some (.string Y) := by
            have hc : w1.cell? ⟨g, 1, none⟩ = some (.string Y) := by rw [← HYY.out]; exact HO.out.cell (cS_get (by rw [HY.out]; rfl))
            exact (B2'.cell (p := ⟨g, 1, none⟩) (cell_lt hc)).trans hc
          clear hc0
          go_wp2_with fail
          have HNUM := lnum_any Y w2 HYS.out
          rw [HRY.out] at HNUM
          refine HNUM.mono ?_
          clear HNUM
          rintro e w3 ⟨rfl, B3'⟩
          have B3 := bl_call B2 B3'
          go_wp2
          refine bodyPost_ret (v := .tuple #[.int .i64 m, .int .i64 y2, .bool false]) (by simp only [results, Tryd.results44]; go_simp) rfl ?_
          exact wrd_no HB.out B3
  · have HB := Lib.hid (ws_many (by rw [HN.out]; exact hn1) (by rw [HN.out]; exact hn2))
    have q1 : ((n : Int) == 1) = false := beq_eq_false_iff_ne.2 (by omega)
    have q2 : ((n : Int) != 2) = true := bne_iff_ne.2 (by omega)
    clear hn1 hn2
    go_enter Tryd.func44, Tryd.ntmps44
    go_wp2_with fail
    have HSPL := lspl_any s 43 w (by omega)
    rw [HL.out, HN.out] at HSPL
    refine HSPL.mono ?_
    clear HSPL
    rintro e w1 ⟨g, c, rfl, ho, B1⟩
    have HO := Lib.hid ho
    have hc0 : w1.cell? ⟨g, 0, none⟩ = some (.string X) := by rw [← HXX.out]; exact HO.out.cell (cS_get (by rw [HSP.out]; rfl))
    clear ho
    go_wp2_with fail
    have HNUM := lnum_any X w1 HXS.out
    rw [HRX.out] at HNUM
    refine HNUM.mono ?_
    clear HNUM
    rintro e w2 ⟨rfl, B2'⟩
    have B2 := bl_call B1 B2'
    go_wp2
    refine bodyPost_ret (v := .tuple #[.int .i64 0, .int .i64 0, .bool false]) (by simp only [results, Tryd.results44]; go_simp) rfl ?_
    exact wrd_no HB.out B2

end Go.Proofs.YtndblondleclpaaDoor
