/- Some of the texts of this claim, joined in one file: Bag, RsS, RsI. -/
import Derived.Test.YtndblondleclpaaGreatDoorMA2
import Derived.Test.YtndblondleclpaaGreatDoorMA1
import Derived.Test.YtndblondleclpaaGreatDoorLawBs
import Derived.Test.YtndblondleclpaaGreatDoorApp
import Derived.Test.YtndblondleclpaaGreatDoorSrcS
import Derived.Test.YtndblondleclpaaGreatDoorMA3
import Derived.Test.YtndblondleclpaaGreatDoorMA4
import Derived.Lib.SplitLaws
/- A source in a box of the call's own, words beside it; a word of a period, as the reference reads it. Each theorem names its conditions. -/
namespace Go.Proofs.YtndblondleclpaaGreatDoor
open Go.RowKit
set_option linter.unusedVariables false
set_option linter.unusedSimpArgs false

theorem only_setB (w : World) (p : Addr) (u : Value) : Only w (w.setCell p u) (fun k => k = p.block) := ⟨rfl, rfl, rfl, by simp, fun k hk hn => Below.heap_setCell w p u k hn⟩
theorem Own.farB {w : World} {B : Nat} {v : Value} {xs : List Int} (h : Own w B v xs) {p : Addr} (hp : ∀ k, v.ownBlock = some k → k ≠ p.block) (u : Value) : Own (w.setCell p u) B v xs := h.only (only_setB w p u) hp
theorem Bx.onlyB {w w' : World} {b : Nat} {cs : Array Value} {S : Nat → Prop} (h : Bx w b cs) (ho : Only w w' S) (hn : ¬ S b) : Bx w' b cs := by
  have hl := h.out.2.2
  obtain ⟨t, h⟩ := h
  exact ⟨t, (ho.block b hl hn).trans h⟩
theorem OwX.only {w w' : World} {B g n c : Nat} {cs : List Value} {S : Nat → Prop} (h : OwX w B (.slice (some ⟨g, 0, none⟩) n c) cs) (ho : Only w w' S) (hn : ¬ S g) : OwX w' B (.slice (some ⟨g, 0, none⟩) n c) cs := by
  have hg := h.lt g rfl
  refine ⟨h.1, ?_⟩
  rcases h.2 with ⟨e, _⟩ | ⟨g', cap, e, hB, h1, h2, h3, h4, h5⟩
  · cases e
  · have eg : g = g' := by injection e with e _ _; injection e with e; injection e with e
    subst eg
    have hb : w'.heap[g]? = w.heap[g]? := ho.block g hg.2 hn
    refine .inr ⟨g, cap, e, hB, h1, h2, Nat.lt_of_lt_of_le h3 ho.size, fun i b hi => ?_, fun j hj => ?_⟩
    · rw [World.cell?_of_block (a := ⟨g, i, none⟩) hb]; exact h4 i b hi
    · rw [World.cell?_of_block (a := ⟨g, j, none⟩) hb, World.frozen?_of_block (a := ⟨g, j, none⟩) hb]; exact h5 j hj

/-- Within a call that began at w: its result's box, a source in block b, a list of words in block gw. -/
structure Bg (w wr : World) (b gw cw : Nat) (ws : List (List UInt8)) (h pp g : Value) (s : Src) : Prop where
  X : Bx wr b #[h, pp, g]
  O : OwnS wr (w.heap.size + 1) h pp g s
  nb : ∀ k, blks h pp g k → k ≠ b
  bb : w.heap.size + 1 ≤ b
  R : Bx wr w.heap.size #[.slice none 0 0, .slice none 0 0, .slice none 0 0]
  B : Bl w wr
  W : OwS wr (w.heap.size + 1) (.slice (some ⟨gw, 0, none⟩) ws.length cw) ws
  nw : gw ≠ b ∧ ∀ k, blks h pp g k → k ≠ gw
theorem Bg.bl {w wr w2 : World} {b gw cw : Nat} {ws : List (List UInt8)} {h pp g : Value} {s : Src} (D : Bg w wr b gw cw ws h pp g s) (hb : Bl wr w2) : Bg w w2 b gw cw ws h pp g s :=
  ⟨D.X.below hb, D.O.below hb, D.nb, D.bb, D.R.below hb, bl_call D.B hb, D.W.below hb, D.nw⟩
theorem Bg.app0 {w w1 wn : World} {b gw cw M : Nat} {ws : List (List UInt8)} {h pp g v' : Value} {s : Src} {ys : List Int} (D : Bg w w1 b gw cw ws h pp g s) (ho : Own wn (w.heap.size + 1) v' ys) (hg : w1.grownBy wn h.ownBlock) (hl : v'.ownBlock = h.ownBlock ∨ v'.ownBlock = some M) (hM : w1.heap.size ≤ M) :
    Bx wn b #[h, pp, g] ∧ Bg w (wn.setCell ⟨b, 0, none⟩ v') b gw cw ws v' pp g ⟨ys, s.P, s.G⟩ := by
  have hbl : b < w1.heap.size := D.X.out.2.2
  have hgw := (D.W.lt gw rfl)
  have ho1 : Only w1 wn (fun k => h.ownBlock = some k) := Only.of_grown hg (fun k e => e)
  have hrow : ∀ k, h.ownBlock = some k → w.heap.size + 1 ≤ k ∧ k < w1.heap.size := fun k e => (D.O.1).lt k e
  have xn := D.X.onlyB ho1 (fun e => D.nb b (.inl e) rfl)
  have n1 : ∀ k, v'.ownBlock = some k → k ≠ b := fun k e => by
    rcases hl with q | q
    · have e := q ▸ e; exact D.nb k (.inl e)
    · rw [q] at e; injection e with e; omega
  have n2 : ∀ k, v'.ownBlock = some k → k ≠ gw := fun k e => by
    rcases hl with q | q
    · have e := q ▸ e; exact D.nw.2 k (.inl e)
    · rw [q] at e; injection e with e; omega
  have fr : ∀ {u : Value} {xs : List Int}, Own w1 (w.heap.size + 1) u xs → Apart h u → Own wn (w.heap.size + 1) u xs := fun hu ha => hu.only ho1 (fun k e q => ha k q e)
  have ap : ∀ {u : Value} {xs : List Int}, Own w1 (w.heap.size + 1) u xs → Apart h u → Apart v' u := fun hu ha k e q => by
    rcases hl with z | z
    · exact ha k (z ▸ e) q
    · rw [z] at e; injection e with e; have := (hu.lt k q).2; omega
  have BN : Bl w wn := bl_grownX D.B hg (fun k e => by have := hrow k e; omega)
  refine ⟨xn, ⟨xn.set 0 _, ?_, ?_, D.bb, (D.R.onlyB ho1 (fun e => by have := (hrow _ e).1; omega)).far (p := ⟨b, 0, none⟩) (by have := D.bb; simp; omega) _, bl_set BN (by have := D.bb; simp; omega) _, ((D.W.only ho1 (fun e => D.nw.2 _ (.inl e) rfl)).only (only_setB wn ⟨b, 0, none⟩ v') (fun e => D.nw.1 e)), D.nw.1, ?_⟩⟩
  · exact ⟨(Own.farB ho (p := ⟨b, 0, none⟩) (fun k e => n1 k e) v'), (Own.farB (fr D.O.2.1 D.O.2.2.2.1) (p := ⟨b, 0, none⟩) (fun k e => D.nb k (.inr (.inl e))) v'), (Own.farB (fr D.O.2.2.1 D.O.2.2.2.2.1) (p := ⟨b, 0, none⟩) (fun k e => D.nb k (.inr (.inr e))) v'), ap D.O.2.1 D.O.2.2.2.1, ap D.O.2.2.1 D.O.2.2.2.2.1, D.O.2.2.2.2.2⟩
  · intro k hk
    rcases hk with e | e | e
    · exact n1 k e
    · exact D.nb k (.inr (.inl e))
    · exact D.nb k (.inr (.inr e))
  · intro k hk
    rcases hk with e | e | e
    · exact n2 k e
    · exact D.nw.2 k (.inr (.inl e))
    · exact D.nw.2 k (.inr (.inr e))
theorem Bg.app1 {w w1 wn : World} {b gw cw M : Nat} {ws : List (List UInt8)} {h pp g v' : Value} {s : Src} {ys : List Int} (D : Bg w w1 b gw cw ws h pp g s) (ho : Own wn (w.heap.size + 1) v' ys) (hg : w1.grownBy wn pp.ownBlock) (hl : v'.ownBlock = pp.ownBlock ∨ v'.ownBlock = some M) (hM : w1.heap.size ≤ M) :
    Bx wn b #[h, pp, g] ∧ Bg w (wn.setCell ⟨b, 1, none⟩ v') b gw cw ws h v' g ⟨s.H, ys, s.G⟩ := by
  have hbl : b < w1.heap.size := D.X.out.2.2
  have hgw := (D.W.lt gw rfl)
  have ho1 : Only w1 wn (fun k => pp.ownBlock = some k) := Only.of_grown hg (fun k e => e)
  have hrow : ∀ k, pp.ownBlock = some k → w.heap.size + 1 ≤ k ∧ k < w1.heap.size := fun k e => (D.O.2.1).lt k e
  have xn := D.X.onlyB ho1 (fun e => D.nb b (.inr (.inl e)) rfl)
  have n1 : ∀ k, v'.ownBlock = some k → k ≠ b := fun k e => by
    rcases hl with q | q
    · have e := q ▸ e; exact D.nb k (.inr (.inl e))
    · rw [q] at e; injection e with e; omega
  have n2 : ∀ k, v'.ownBlock = some k → k ≠ gw := fun k e => by
    rcases hl with q | q
    · have e := q ▸ e; exact D.nw.2 k (.inr (.inl e))
    · rw [q] at e; injection e with e; omega
  have fr : ∀ {u : Value} {xs : List Int}, Own w1 (w.heap.size + 1) u xs → Apart pp u → Own wn (w.heap.size + 1) u xs := fun hu ha => hu.only ho1 (fun k e q => ha k q e)
  have ap : ∀ {u : Value} {xs : List Int}, Own w1 (w.heap.size + 1) u xs → Apart pp u → Apart v' u := fun hu ha k e q => by
    rcases hl with z | z
    · exact ha k (z ▸ e) q
    · rw [z] at e; injection e with e; have := (hu.lt k q).2; omega
  have BN : Bl w wn := bl_grownX D.B hg (fun k e => by have := hrow k e; omega)
  refine ⟨xn, ⟨xn.set 1 _, ?_, ?_, D.bb, (D.R.onlyB ho1 (fun e => by have := (hrow _ e).1; omega)).far (p := ⟨b, 1, none⟩) (by have := D.bb; simp; omega) _, bl_set BN (by have := D.bb; simp; omega) _, ((D.W.only ho1 (fun e => D.nw.2 _ (.inr (.inl e)) rfl)).only (only_setB wn ⟨b, 1, none⟩ v') (fun e => D.nw.1 e)), D.nw.1, ?_⟩⟩
  · exact ⟨(Own.farB (fr D.O.1 (Apart.symm D.O.2.2.2.1)) (p := ⟨b, 1, none⟩) (fun k e => D.nb k (.inl e)) v'), (Own.farB ho (p := ⟨b, 1, none⟩) (fun k e => n1 k e) v'), (Own.farB (fr D.O.2.2.1 D.O.2.2.2.2.2) (p := ⟨b, 1, none⟩) (fun k e => D.nb k (.inr (.inr e))) v'), Apart.symm (ap D.O.1 (Apart.symm D.O.2.2.2.1)), D.O.2.2.2.2.1, ap D.O.2.2.1 D.O.2.2.2.2.2⟩
  · intro k hk
    rcases hk with e | e | e
    · exact D.nb k (.inl e)
    · exact n1 k e
    · exact D.nb k (.inr (.inr e))
  · intro k hk
    rcases hk with e | e | e
    · exact D.nw.2 k (.inl e)
    · exact n2 k e
    · exact D.nw.2 k (.inr (.inr e))
theorem Bg.app2 {w w1 wn : World} {b gw cw M : Nat} {ws : List (List UInt8)} {h pp g v' : Value} {s : Src} {ys : List Int} (D : Bg w w1 b gw cw ws h pp g s) (ho : Own wn (w.heap.size + 1) v' ys) (hg : w1.grownBy wn g.ownBlock) (hl : v'.ownBlock = g.ownBlock ∨ v'.ownBlock = some M) (hM : w1.heap.size ≤ M) :
    Bx wn b #[h, pp, g] ∧ Bg w (wn.setCell ⟨b, 2, none⟩ v') b gw cw ws h pp v' ⟨s.H, s.P, ys⟩ := by
  have hbl : b < w1.heap.size := D.X.out.2.2
  have hgw := (D.W.lt gw rfl)
  have ho1 : Only w1 wn (fun k => g.ownBlock = some k) := Only.of_grown hg (fun k e => e)
  have hrow : ∀ k, g.ownBlock = some k → w.heap.size + 1 ≤ k ∧ k < w1.heap.size := fun k e => (D.O.2.2.1).lt k e
  have xn := D.X.onlyB ho1 (fun e => D.nb b (.inr (.inr e)) rfl)
  have n1 : ∀ k, v'.ownBlock = some k → k ≠ b := fun k e => by
    rcases hl with q | q
    · have e := q ▸ e; exact D.nb k (.inr (.inr e))
    · rw [q] at e; injection e with e; omega
  have n2 : ∀ k, v'.ownBlock = some k → k ≠ gw := fun k e => by
    rcases hl with q | q
    · have e := q ▸ e; exact D.nw.2 k (.inr (.inr e))
    · rw [q] at e; injection e with e; omega
  have fr : ∀ {u : Value} {xs : List Int}, Own w1 (w.heap.size + 1) u xs → Apart g u → Own wn (w.heap.size + 1) u xs := fun hu ha => hu.only ho1 (fun k e q => ha k q e)
  have ap : ∀ {u : Value} {xs : List Int}, Own w1 (w.heap.size + 1) u xs → Apart g u → Apart v' u := fun hu ha k e q => by
    rcases hl with z | z
    · exact ha k (z ▸ e) q
    · rw [z] at e; injection e with e; have := (hu.lt k q).2; omega
  have BN : Bl w wn := bl_grownX D.B hg (fun k e => by have := hrow k e; omega)
  refine ⟨xn, ⟨xn.set 2 _, ?_, ?_, D.bb, (D.R.onlyB ho1 (fun e => by have := (hrow _ e).1; omega)).far (p := ⟨b, 2, none⟩) (by have := D.bb; simp; omega) _, bl_set BN (by have := D.bb; simp; omega) _, ((D.W.only ho1 (fun e => D.nw.2 _ (.inr (.inr e)) rfl)).only (only_setB wn ⟨b, 2, none⟩ v') (fun e => D.nw.1 e)), D.nw.1, ?_⟩⟩
  · exact ⟨(Own.farB (fr D.O.1 (Apart.symm D.O.2.2.2.2.1)) (p := ⟨b, 2, none⟩) (fun k e => D.nb k (.inl e)) v'), (Own.farB (fr D.O.2.1 (Apart.symm D.O.2.2.2.2.2)) (p := ⟨b, 2, none⟩) (fun k e => D.nb k (.inr (.inl e))) v'), (Own.farB ho (p := ⟨b, 2, none⟩) (fun k e => n1 k e) v'), D.O.2.2.2.1, Apart.symm (ap D.O.1 (Apart.symm D.O.2.2.2.2.1)), Apart.symm (ap D.O.2.1 (Apart.symm D.O.2.2.2.2.2))⟩
  · intro k hk
    rcases hk with e | e | e
    · exact D.nb k (.inl e)
    · exact D.nb k (.inr (.inl e))
    · exact n1 k e
  · intro k hk
    rcases hk with e | e | e
    · exact D.nw.2 k (.inl e)
    · exact D.nw.2 k (.inr (.inl e))
    · exact n2 k e

/-! A word of a period. -/
theorem ws_bad {l : List UInt8} (h : rdec (spl 43 l).head! = none) : wordS l = none := by unfold wordS; rw [h]
theorem ws_one {l : List UInt8} {n : Int} (h : rdec (spl 43 l).head! = some n) (h1 : (spl 43 l).length = 1) : wordS l = some (n, 0) := by unfold wordS; rw [h]; simp only; rw [if_pos h1]
theorem ws_many {l : List UInt8} (h1 : (spl 43 l).length ≠ 1) (h2 : (spl 43 l).length ≠ 2) : wordS l = none := by
  unfold wordS
  cases rdec (spl 43 l).head! with
  | none => rfl
  | some n => simp only; rw [if_neg h1, if_neg h2]
theorem ws_two {l a b : List UInt8} {n : Int} {o : Option Int} (hs : spl 43 l = [a, b]) (h : rdec a = some n) (h2 : rdec b = o) : wordS l = o.bind fun g => if 0 < g then some (n, g) else none := by
  unfold wordS; rw [hs]; simp only [head1, h, List.length_cons, List.length_nil]
  rw [if_neg (by decide), if_pos (by decide)]
  simp only [show ∀ (x y : List UInt8), (x :: [y])[1]! = y from fun _ _ => rfl]
  rw [h2]
  cases o <;> rfl
def WrdP (l : List UInt8) (w : World) (e : Ending) (w' : World) : Prop := ∃ n g : Int, e = .returned (.tuple #[.int .i64 n, .int .i64 g, .bool (wordS l).isSome]) ∧ (∀ x, wordS l = some x → x = (n, g)) ∧ Bl w w'
theorem wrd_no {l : List UInt8} {w w' : World} {n g : Int} (h : wordS l = none) (hb : Bl w w') : WrdP l w (.returned (.tuple #[.int .i64 n, .int .i64 g, .bool false])) w' :=
  ⟨n, g, by rw [h]; rfl, fun x hx => (by rw [h] at hx; cases hx), hb⟩
theorem wrd_ok {l : List UInt8} {w w' : World} {n g : Int} (h : wordS l = some (n, g)) (hb : Bl w w') : WrdP l w (.returned (.tuple #[.int .i64 n, .int .i64 g, .bool true])) w' :=
  ⟨n, g, by rw [h]; rfl, fun x hx => (by rw [h] at hx; exact (Option.some.inj hx).symm), hb⟩

theorem spl_lenB {c : UInt8} : ∀ (n : Nat) (l : List UInt8), l.length ≤ n → ∀ q ∈ spl c l, q.length ≤ l.length := by
  intro n
  induction n with
  | zero =>
    intro l h q hq
    obtain rfl := List.eq_nil_of_length_eq_zero (Nat.le_zero.1 h)
    simp [spl] at hq; subst hq; simp
  | succ n ih =>
    intro l h q hq
    rcases spl_cases c l with ⟨h1, e⟩ | ⟨x, y, rfl, ha, e⟩
    · rw [e] at hq; simp at hq; subst hq; exact Nat.le_refl _
    · rw [e] at hq
      rcases List.mem_cons.1 hq with rfl | hq
      · simp
      · have := ih y (by simp at h; omega) q hq
        simp; omega
theorem spl_numB (c : UInt8) : ∀ l : List UInt8, (spl c l).length ≤ l.length + 1
  | [] => by simp [spl]
  | b :: l => by
    have := spl_numB c l
    have h2 := List.length_pos_iff.2 (spl_ne c l)
    rw [spl]
    split
    · simp; omega
    · simp; omega

set_option maxRecDepth 100000 in
set_option maxHeartbeats 6400000 in
theorem lwrd_any (s : ByteArray) (w : World) (hs : s.size ≤ 1048577) :
    Calls Tryz.prog 70 #[.string s] w (WrdP s.data.toList w) := by
  obtain ⟨l, hl⟩ : ∃ l, s.data.toList = l := ⟨_, rfl⟩
  have hln : l.length ≤ 1048577 := by rw [← hl, ← Lib.size_eq s]; exact hs
  have HL := Lib.hid hl
  clear hl
  obtain ⟨x0, rs, hsp⟩ := spl_cons 43 l
  have hx0 : x0.length ≤ 1048577 := by have := spl_lenB (c := 43) _ l (Nat.le_refl _) x0 (by rw [hsp]; simp); omega
  have HSP := Lib.hid hsp
  have HX0 := Lib.hid (show (spl 43 l).head! = x0 by rw [hsp]; rfl)
  obtain ⟨n, hn⟩ : ∃ n, rs.length + 1 = n := ⟨_, rfl⟩
  have HN := Lib.hid (show (spl 43 l).length = n by rw [hsp, ← hn]; rfl)
  have hn0 : 0 < n := by omega
  have hnb : n ≤ 9223372036854775807 := by
    have := spl_numB 43 l
    rw [hsp, List.length_cons, hn] at this
    omega
  clear hsp
  obtain ⟨X, hX⟩ : ∃ X : ByteArray, (⟨x0.toArray⟩ : ByteArray) = X := ⟨_, rfl⟩
  have HXD := Lib.hid (show X.data.toList = x0 by rw [← hX])
  have HXX := Lib.hid hX
  have HXS := Lib.hid (show X.size ≤ 2000000 by rw [Lib.size_eq X, HXD.out]; omega)
  clear hX hn
  obtain ⟨o, ho⟩ : ∃ o, rdec x0 = o := ⟨_, rfl⟩
  have HRD := Lib.hid (show rdec (spl 43 l).head! = o by rw [HX0.out]; exact ho)
  have HRX := Lib.hid (show rdec X.data.toList = o by rw [HXD.out]; exact ho)
  have HR0 := Lib.hid ho
  clear ho
  rw [HL.out]
  by_cases hn1 : n = 1
  · subst hn1
    have q1 : (((1 : Nat) : Int) == 1) = true := rfl
    cases o with
    | none =>
      have HB := Lib.hid (ws_bad HRD.out)
      go_enter Tryz.func70, Tryz.ntmps70
      go_wp2_with fail
      have HSPL := lspl_any s 43 w (by omega)
      rw [HL.out, HN.out] at HSPL
      refine HSPL.mono ?_
      clear HSPL
      rintro e w1 ⟨g, c, rfl, ho, B1⟩
      have HO := Lib.hid ho
      have hc0 : w1.cell? ⟨g, 0, none⟩ = some (.string X) := by rw [← HXX.out]; exact HO.out.cell (cS_get (by rw [HSP.out]; rfl))
      clear ho
      go_wp2_with fail
      have HNUM := lnum_any X w1 HXS.out
      rw [HRX.out] at HNUM
      refine HNUM.mono ?_
      clear HNUM
      rintro e w2 ⟨rfl, B2'⟩
      have B2 := bl_call B1 B2'
      go_wp2
      refine bodyPost_ret (v := .tuple #[.int .i64 0, .int .i64 0, .bool false]) (by simp only [results, Tryz.results70]; go_simp) rfl ?_
      exact wrd_no HB.out B2
    | some m =>
      have HG := Lib.hid (ws_one HRD.out HN.out)
      go_enter Tryz.func70, Tryz.ntmps70
      go_wp2_with fail
      have HSPL := lspl_any s 43 w (by omega)
      rw [HL.out, HN.out] at HSPL
      refine HSPL.mono ?_
      clear HSPL
      rintro e w1 ⟨g, c, rfl, ho, B1⟩
      have HO := Lib.hid ho
      have hc0 : w1.cell? ⟨g, 0, none⟩ = some (.string X) := by rw [← HXX.out]; exact HO.out.cell (cS_get (by rw [HSP.out]; rfl))
      clear ho
      go_wp2_with fail
      have HNUM := lnum_any X w1 HXS.out
      rw [HRX.out] at HNUM
      refine HNUM.mono ?_
      clear HNUM
      rintro e w2 ⟨rfl, B2'⟩
      have B2 := bl_call B1 B2'
      go_wp2
      refine bodyPost_ret (v := .tuple #[.int .i64 m, .int .i64 0, .bool true]) (by simp only [results, Tryz.results70]; go_simp) rfl ?_
      exact wrd_ok HG.out B2
  by_cases hn2 : n = 2
  · subst hn2
    obtain ⟨y, hy⟩ : ∃ y, spl 43 l = [x0, y] := by
      have h1 := HSP.out
      have h2 := HN.out
      rw [h1] at h2 ⊢
      match rs, h2 with
      | [y], _ => exact ⟨y, rfl⟩
    have HY := Lib.hid hy
    have hyl : y.length ≤ 1048577 := by have := spl_lenB (c := 43) _ l (Nat.le_refl _) y (by rw [hy]; simp); omega
    obtain ⟨Y, hY⟩ : ∃ Y : ByteArray, (⟨y.toArray⟩ : ByteArray) = Y := ⟨_, rfl⟩
    have HYD := Lib.hid (show Y.data.toList = y by rw [← hY])
    have HYY := Lib.hid hY
    have HYS := Lib.hid (show Y.size ≤ 2000000 by rw [Lib.size_eq Y, HYD.out]; omega)
    clear hy hY hn1
    obtain ⟨o2, ho2⟩ : ∃ o, rdec y = o := ⟨_, rfl⟩
    have HRY := Lib.hid (show rdec Y.data.toList = o2 by rw [HYD.out]; exact ho2)
    have HR2 := Lib.hid ho2
    clear ho2
    cases o with
    | none =>
      have HB := Lib.hid (ws_bad HRD.out)
      cases o2 with
      | none =>
        go_enter Tryz.func70, Tryz.ntmps70
        go_wp2_with fail
        have HSPL := lspl_any s 43 w (by omega)
        rw [HL.out, HN.out] at HSPL
        refine HSPL.mono ?_
        clear HSPL
        rintro e w1 ⟨g, c, rfl, ho, B1⟩
        have HO := Lib.hid ho
        have hc0 : w1.cell? ⟨g, 0, none⟩ = some (.string X) := by rw [← HXX.out]; exact HO.out.cell (cS_get (by rw [HSP.out]; rfl))
        clear ho
        go_wp2_with fail
        have HNUM := lnum_any X w1 HXS.out
        rw [HRX.out] at HNUM
        refine HNUM.mono ?_
        clear HNUM
        rintro e w2 ⟨rfl, B2'⟩
        have B2 := bl_call B1 B2'
        have hcy : w2.cell? ⟨g, 1, none⟩ = some (.string Y) := by
          have hc : w1.cell? ⟨g, 1, none⟩ = some (.string Y) := by rw [← HYY.out]; exact HO.out.cell (cS_get (by rw [HY.out]; rfl))
          exact (B2'.cell (p := ⟨g, 1, none⟩) (cell_lt hc)).trans hc
        clear hc0
        go_wp2_with fail
        have HNUM := lnum_any Y w2 HYS.out
        rw [HRY.out] at HNUM
        refine HNUM.mono ?_
        clear HNUM
        rintro e w3 ⟨rfl, B3'⟩
        have B3 := bl_call B2 B3'
        go_wp2
        refine bodyPost_ret (v := .tuple #[.int .i64 0, .int .i64 0, .bool false]) (by simp only [results, Tryz.results70]; go_simp) rfl ?_
        exact wrd_no HB.out B3
      | some y2 =>
        go_enter Tryz.func70, Tryz.ntmps70
        go_wp2_with fail
        have HSPL := lspl_any s 43 w (by omega)
        rw [HL.out, HN.out] at HSPL
        refine HSPL.mono ?_
        clear HSPL
        rintro e w1 ⟨g, c, rfl, ho, B1⟩
        have HO := Lib.hid ho
        have hc0 : w1.cell? ⟨g, 0, none⟩ = some (.string X) := by rw [← HXX.out]; exact HO.out.cell (cS_get (by rw [HSP.out]; rfl))
        clear ho
        go_wp2_with fail
        have HNUM := lnum_any X w1 HXS.out
        rw [HRX.out] at HNUM
        refine HNUM.mono ?_
        clear HNUM
        rintro e w2 ⟨rfl, B2'⟩
        have B2 := bl_call B1 B2'
        have hcy : w2.cell? ⟨g, 1, none⟩ = some (.string Y) := by
          have hc : w1.cell? ⟨g, 1, none⟩ = some (.string Y) := by rw [← HYY.out]; exact HO.out.cell (cS_get (by rw [HY.out]; rfl))
          exact (B2'.cell (p := ⟨g, 1, none⟩) (cell_lt hc)).trans hc
        clear hc0
        go_wp2_with fail
        have HNUM := lnum_any Y w2 HYS.out
        rw [HRY.out] at HNUM
        refine HNUM.mono ?_
        clear HNUM
        rintro e w3 ⟨rfl, B3'⟩
        have B3 := bl_call B2 B3'
        go_wp2
        refine bodyPost_ret (v := .tuple #[.int .i64 0, .int .i64 y2, .bool false]) (by simp only [results, Tryz.results70]; go_simp) rfl ?_
        exact wrd_no HB.out B3
    | some m =>
      cases o2 with
      | none =>
        have HB := Lib.hid (ws_two HY.out HR0.out HR2.out)
        go_enter Tryz.func70, Tryz.ntmps70
        go_wp2_with fail
        have HSPL := lspl_any s 43 w (by omega)
        rw [HL.out, HN.out] at HSPL
        refine HSPL.mono ?_
        clear HSPL
        rintro e w1 ⟨g, c, rfl, ho, B1⟩
        have HO := Lib.hid ho
        have hc0 : w1.cell? ⟨g, 0, none⟩ = some (.string X) := by rw [← HXX.out]; exact HO.out.cell (cS_get (by rw [HSP.out]; rfl))
        clear ho
        go_wp2_with fail
        have HNUM := lnum_any X w1 HXS.out
        rw [HRX.out] at HNUM
        refine HNUM.mono ?_
        clear HNUM
        rintro e w2 ⟨rfl, B2'⟩
        have B2 := bl_call B1 B2'
        have hcy : w2.cell? ⟨g, 1, none⟩ = some (.string Y) := by
          have hc : w1.cell? ⟨g, 1, none⟩ = some (.string Y) := by rw [← HYY.out]; exact HO.out.cell (cS_get (by rw [HY.out]; rfl))
          exact (B2'.cell (p := ⟨g, 1, none⟩) (cell_lt hc)).trans hc
        clear hc0
        go_wp2_with fail
        have HNUM := lnum_any Y w2 HYS.out
        rw [HRY.out] at HNUM
        refine HNUM.mono ?_
        clear HNUM
        rintro e w3 ⟨rfl, B3'⟩
        have B3 := bl_call B2 B3'
        go_wp2
        refine bodyPost_ret (v := .tuple #[.int .i64 m, .int .i64 0, .bool false]) (by simp only [results, Tryz.results70]; go_simp) rfl ?_
        exact wrd_no HB.out B3
      | some y2 =>
        by_cases hp : 0 < y2
        · have HG := Lib.hid (show wordS l = some (m, y2) by rw [ws_two HY.out HR0.out HR2.out]; simp [hp])
          go_enter Tryz.func70, Tryz.ntmps70
          go_wp2_with fail
          have HSPL := lspl_any s 43 w (by omega)
          rw [HL.out, HN.out] at HSPL
          refine HSPL.mono ?_
          clear HSPL
          rintro e w1 ⟨g, c, rfl, ho, B1⟩
          have HO := Lib.hid ho
          have hc0 : w1.cell? ⟨g, 0, none⟩ = some (.string X) := by rw [← HXX.out]; exact HO.out.cell (cS_get (by rw [HSP.out]; rfl))
          clear ho
          go_wp2_with fail
          have HNUM := lnum_any X w1 HXS.out
          rw [HRX.out] at HNUM
          refine HNUM.mono ?_
          clear HNUM
          rintro e w2 ⟨rfl, B2'⟩
          have B2 := bl_call B1 B2'
          have hcy : w2.cell? ⟨g, 1, none⟩ = some (.string Y) := by
            have hc : w1.cell? ⟨g, 1, none⟩ = some (.string Y) := by rw [← HYY.out]; exact HO.out.cell (cS_get (by rw [HY.out]; rfl))
            exact (B2'.cell (p := ⟨g, 1, none⟩) (cell_lt hc)).trans hc
          clear hc0
          go_wp2_with fail
          have HNUM := lnum_any Y w2 HYS.out
          rw [HRY.out] at HNUM
          refine HNUM.mono ?_
          clear HNUM
          rintro e w3 ⟨rfl, B3'⟩
          have B3 := bl_call B2 B3'
          go_wp2
          refine bodyPost_ret (v := .tuple #[.int .i64 m, .int .i64 y2, .bool true]) (by simp only [results, Tryz.results70]; go_simp) rfl ?_
          exact wrd_ok HG.out B3
        · have HB := Lib.hid (show wordS l = none by rw [ws_two HY.out HR0.out HR2.out]; simp [hp])
          go_enter Tryz.func70, Tryz.ntmps70
          go_wp2_with fail
          have HSPL := lspl_any s 43 w (by omega)
          rw [HL.out, HN.out] at HSPL
          refine HSPL.mono ?_
          clear HSPL
          rintro e w1 ⟨g, c, rfl, ho, B1⟩
          have HO := Lib.hid ho
          have hc0 : w1.cell? ⟨g, 0, none⟩ = some (.string X) := by rw [← HXX.out]; exact HO.out.cell (cS_get (by rw [HSP.out]; rfl))
          clear ho
          go_wp2_with fail
          have HNUM := lnum_any X w1 HXS.out
          rw [HRX.out] at HNUM
          refine HNUM.mono ?_
          clear HNUM
          rintro e w2 ⟨rfl, B2'⟩
          have B2 := bl_call B1 B2'
          have hcy : w2.cell? ⟨g, 1, none⟩ = some (.string Y) := by
            have hc : w1.cell? ⟨g, 1, none⟩ = some (.string Y) := by rw [← HYY.out]; exact HO.out.cell (cS_get (by rw [HY.out]; rfl))
            exact (B2'.cell (p := ⟨g, 1, none⟩) (cell_lt hc)).trans hc
          clear hc0
          go_wp2_with fail
          have HNUM := lnum_any Y w2 HYS.out
          rw [HRY.out] at HNUM
          refine HNUM.mono ?_
          clear HNUM
          rintro e w3 ⟨rfl, B3'⟩
          have B3 := bl_call B2 B3'
          go_wp2
          refine bodyPost_ret (v := .tuple #[.int .i64 m, .int .i64 y2, .bool false]) (by simp only [results, Tryz.results70]; go_simp) rfl ?_
          exact wrd_no HB.out B3
  · have HB := Lib.hid (ws_many (by rw [HN.out]; exact hn1) (by rw [HN.out]; exact hn2))
    have q1 : ((n : Int) == 1) = false := beq_eq_false_iff_ne.2 (by omega)
    have q2 : ((n : Int) != 2) = true := bne_iff_ne.2 (by omega)
    clear hn1 hn2
    go_enter Tryz.func70, Tryz.ntmps70
    go_wp2_with fail
    have HSPL := lspl_any s 43 w (by omega)
    rw [HL.out, HN.out] at HSPL
    refine HSPL.mono ?_
    clear HSPL
    rintro e w1 ⟨g, c, rfl, ho, B1⟩
    have HO := Lib.hid ho
    have hc0 : w1.cell? ⟨g, 0, none⟩ = some (.string X) := by rw [← HXX.out]; exact HO.out.cell (cS_get (by rw [HSP.out]; rfl))
    clear ho
    go_wp2_with fail
    have HNUM := lnum_any X w1 HXS.out
    rw [HRX.out] at HNUM
    refine HNUM.mono ?_
    clear HNUM
    rintro e w2 ⟨rfl, B2'⟩
    have B2 := bl_call B1 B2'
    go_wp2
    refine bodyPost_ret (v := .tuple #[.int .i64 0, .int .i64 0, .bool false]) (by simp only [results, Tryz.results70]; go_simp) rfl ?_
    exact wrd_no HB.out B2

end Go.Proofs.YtndblondleclpaaGreatDoor

/- Texts of sources, as the reference reads them. Each theorem names its conditions. -/
namespace Go.Proofs.YtndblondleclpaaGreatDoor
open Go.RowKit
set_option linter.unusedVariables false
set_option linter.unusedSimpArgs false


/-- What both return. -/
noncomputable def rsF (l : List UInt8) : Src × Bool := match rsS l with
  | some x => (⟨x.1, x.2.1, x.2.2⟩, true)
  | none => (⟨[], [], []⟩, false)
theorem rsF_none {l : List UInt8} (h : rsS l = none) : rsF l = (⟨[], [], []⟩, false) := by unfold rsF; rw [h]
theorem rsF_some {l : List UInt8} {A B C : List Int} (h : rsS l = some (A, B, C)) : rsF l = (⟨A, B, C⟩, true) := by unfold rsF; rw [h]
def RsP (l : List UInt8) (w : World) (e : Ending) (w' : World) : Prop :=
  ∃ h p g, e = .returned (.tuple #[.agg #[h, p, g], .bool (rsF l).2]) ∧ OwnS w' w.heap.size h p g (rsF l).1 ∧ Bl w w'
theorem ownS_nilR (w : World) (B : Nat) : OwnS w B (.slice none 0 0) (.slice none 0 0) (.slice none 0 0) ⟨[], [], []⟩ :=
  ⟨Own.nil _ _, Own.nil _ _, Own.nil _ _, fun k h => by simp [Value.ownBlock] at h, fun k h => by simp [Value.ownBlock] at h, fun k h => by simp [Value.ownBlock] at h⟩
theorem rs_bad {l : List UInt8} {w w' : World} (h : rsS l = none) (hb : Bl w w') : RsP l w (.returned (.tuple #[.agg #[.slice none 0 0, .slice none 0 0, .slice none 0 0], .bool false])) w' := by
  unfold RsP
  rw [rsF_none h]
  exact ⟨_, _, _, rfl, ownS_nilR _ _, hb⟩
theorem bl_set3 {w wr : World} (h : Bl w wr) (b : Nat) (hb : w.heap.size ≤ b) (x y z : Value) : Bl w (((wr.setCell ⟨b, 0, none⟩ x).setCell ⟨b, 1, none⟩ y).setCell ⟨b, 2, none⟩ z) :=
  bl_set (bl_set (bl_set h (by simpa using hb) _) (by simpa using hb) _) (by simpa using hb) _
theorem only_set3 (wr : World) (b : Nat) (x y z : Value) : Only wr (((wr.setCell ⟨b, 0, none⟩ x).setCell ⟨b, 1, none⟩ y).setCell ⟨b, 2, none⟩ z) (fun k => k = b) :=
  ((only_setB wr ⟨b, 0, none⟩ x).trans (only_setB _ ⟨b, 1, none⟩ y)).trans (only_setB _ ⟨b, 2, none⟩ z)
theorem rs_good {l : List UInt8} {w wr w' : World} {b gw cw : Nat} {ws : List (List UInt8)} {h p g : Value} {s : Src} (hr : rsS l = some (s.H, s.P, s.G)) (D : Bg w wr b gw cw ws h p g s) (ho : Only wr w' (fun k => k = w.heap.size)) :
    RsP l w (.returned (.tuple #[.agg #[h, p, g], .bool true])) w' := by
  unfold RsP
  rw [rsF_some hr]
  have hn : ∀ k, w.heap.size + 1 ≤ k → ¬ (k = w.heap.size) := fun k hk e => by omega
  refine ⟨h, p, g, rfl, ?_, Below.only D.B ho D.B.size (fun k hk => by omega)⟩
  exact OwnS.mono ⟨D.O.1.only ho (fun k e => hn k (D.O.1.lt k e).1), D.O.2.1.only ho (fun k e => hn k (D.O.2.1.lt k e).1), D.O.2.2.1.only ho (fun k e => hn k (D.O.2.2.1.lt k e).1), D.O.2.2.2⟩ (Nat.le_succ _)
/-- One word read. -/
theorem fold_next {ws : List (List UInt8)} {st0 st st' : RS} {i : Nat} {q : List UInt8} (hf : foldS st0 ws = foldS st (ws.drop i)) (hq : ws[i]? = some q) (hs : stepS st q = some st') : foldS st0 ws = foldS st' (ws.drop (i + 1)) := by
  have hi := (List.getElem?_eq_some_iff.1 hq).1
  rw [hf, List.drop_eq_getElem_cons hi, (List.getElem?_eq_some_iff.1 hq).2, foldS, hs]
theorem fold_bad {ws : List (List UInt8)} {st0 st : RS} {i : Nat} {q : List UInt8} (hf : foldS st0 ws = foldS st (ws.drop i)) (hq : ws[i]? = some q) (hs : stepS st q = none) : foldS st0 ws = none := by
  have hi := (List.getElem?_eq_some_iff.1 hq).1
  rw [hf, List.drop_eq_getElem_cons hi, (List.getElem?_eq_some_iff.1 hq).2, foldS, hs]
theorem rs_fold {l : List UInt8} (h : foldS ⟨false, false, [], [], []⟩ (spl 32 l) = none) : rsS l = none := by unfold rsS; rw [h]
theorem rs_end {l : List UInt8} {st : RS} (h : foldS ⟨false, false, [], [], []⟩ (spl 32 l) = some st) (hv : st.ins = st.ended ∧ VS st.H st.P st.G) : rsS l = some (st.H, st.P, st.G) := by unfold rsS; rw [h]; simp only; rw [if_pos hv]
theorem rs_end_no {l : List UInt8} {st : RS} (h : foldS ⟨false, false, [], [], []⟩ (spl 32 l) = some st) (hv : ¬ (st.ins = st.ended ∧ VS st.H st.P st.G)) : rsS l = none := by unfold rsS; rw [h]; simp only; rw [if_neg hv]
theorem st_ended {st : RS} {q : List UInt8} (h : st.ended = true) : stepS st q = none := by unfold stepS; rw [if_pos (.inl h)]
theorem st_empty {st : RS} {q : List UInt8} (h : q = []) : stepS st q = none := by unfold stepS; rw [if_pos (.inr h)]
theorem st_bad {st : RS} {q w2 : List UInt8} (he : st.ended = false) (hq : q ≠ []) (h2 : w2S st.ins q = w2) (h : wordS w2 = none) : stepS st q = none := by
  unfold stepS; rw [if_neg (by simp [he, hq]), h2, h]
theorem st_in {st : RS} {q w2 : List UInt8} {n g : Int} (he : st.ended = false) (hq : q ≠ []) (h2 : w2S st.ins q = w2) (h : wordS w2 = some (n, g)) (hi : (st.ins || opS st.ins q) = true) :
    stepS st q = some ⟨true, clS st.ins q, st.H, st.P ++ [n], st.G ++ [g]⟩ := by
  unfold stepS; rw [if_neg (by simp [he, hq]), h2, h]; simp only; rw [if_pos hi]
theorem st_out {st : RS} {q w2 : List UInt8} {n g : Int} (he : st.ended = false) (hq : q ≠ []) (h2 : w2S st.ins q = w2) (h : wordS w2 = some (n, g)) (hi : (st.ins || opS st.ins q) = false) (hg : ¬ 0 < g) :
    stepS st q = some ⟨false, false, st.H ++ [n], st.P, st.G⟩ := by
  unfold stepS; rw [if_neg (by simp [he, hq]), h2, h]; simp only; rw [if_neg (by simp [hi]), if_neg hg]
theorem st_out_no {st : RS} {q w2 : List UInt8} {n g : Int} (he : st.ended = false) (hq : q ≠ []) (h2 : w2S st.ins q = w2) (h : wordS w2 = some (n, g)) (hi : (st.ins || opS st.ins q) = false) (hg : 0 < g) :
    stepS st q = none := by
  unfold stepS; rw [if_neg (by simp [he, hq]), h2, h]; simp only; rw [if_neg (by simp [hi]), if_pos hg]
theorem str_last {s : ByteArray} (h : 0 < s.size) : s.data.toList.getLast? = some (s[s.size - 1]'(by omega)) := by
  have := str_ix (s := s) (i := s.size - 1) (by omega)
  rw [List.getLast?_eq_getElem?, ← Lib.size_eq s]; exact this
theorem str_front {s : ByteArray} : (s.extract 0 (s.size - 1)).data.toList = s.data.toList.dropLast := by
  rw [Lib.extract_data, List.dropLast_eq_take, ← Lib.size_eq s]; simp
theorem own_madeR (w : World) {B : Nat} (hB : B ≤ w.heap.size) : Own (w.alloc (.cells #[] 2)) B (.slice (some ⟨w.heap.size, 0, none⟩) 0 0) [] := own_made w hB

theorem size_alloc1 (w : World) (o : Obj) : (w.alloc o).heap.size = w.heap.size + 1 := by simp
theorem wordS_rng {w : List UInt8} {n g : Int} (h : wordS w = some (n, g)) : R64 n ∧ R64 g := by
  unfold wordS at h
  cases hr : rdec (spl 43 w).head! with
  | none => rw [hr] at h; cases h
  | some m =>
    rw [hr] at h
    simp only at h
    have b1 := (rdec_some hr).2
    unfold R64
    by_cases h1 : (spl 43 w).length = 1
    · rw [if_pos h1] at h
      simp only [Option.some.injEq, Prod.mk.injEq] at h
      omega
    · rw [if_neg h1] at h
      by_cases h2 : (spl 43 w).length = 2
      · rw [if_pos h2] at h
        cases hr2 : rdec (spl 43 w)[1]! with
        | none => rw [hr2] at h; cases h
        | some k =>
          rw [hr2] at h
          simp only at h
          have b2 := (rdec_some hr2).2
          by_cases h3 : 0 < k
          · rw [if_pos h3] at h
            simp only [Option.some.injEq, Prod.mk.injEq] at h
            omega
          · rw [if_neg h3] at h; cases h
      · rw [if_neg h2] at h; cases h
theorem OwX.mono {w : World} {B B' : Nat} {v : Value} {cs : List Value} (h : OwX w B v cs) (hB : B' ≤ B) : OwX w B' v cs := by
  refine ⟨h.1, ?_⟩
  rcases h.2 with q | ⟨g, cap, e, h1, q⟩
  · exact .inl q
  · exact .inr ⟨g, cap, e, Nat.le_trans hB h1, q⟩
theorem apart_of {a b : Nat} (h : a ≠ b) (n c m d : Nat) : Apart (.slice (some ⟨a, 0, none⟩) n c) (.slice (some ⟨b, 0, none⟩) m d) := fun k e q => by
  simp [Value.ownBlock] at e q; omega
/-- The boxes at the reference's start. -/
theorem start5 (w : World) (W : World) (hW : W = ((((w.alloc (.cells #[.slice none 0 0, .slice none 0 0, .slice none 0 0] 26)).alloc (.cells #[] 2)).alloc (.cells #[] 2)).alloc (.cells #[] 2)).alloc (.cells #[.slice (some ⟨w.heap.size + 1, 0, none⟩) 0 0, .slice (some ⟨w.heap.size + 1 + 1, 0, none⟩) 0 0, .slice (some ⟨w.heap.size + 1 + 1 + 1, 0, none⟩) 0 0] 26)) :
    Bx W (w.heap.size + 1 + 1 + 1 + 1) #[.slice (some ⟨w.heap.size + 1, 0, none⟩) 0 0, .slice (some ⟨w.heap.size + 1 + 1, 0, none⟩) 0 0, .slice (some ⟨w.heap.size + 1 + 1 + 1, 0, none⟩) 0 0] ∧
    OwnS W (w.heap.size + 1) (.slice (some ⟨w.heap.size + 1, 0, none⟩) 0 0) (.slice (some ⟨w.heap.size + 1 + 1, 0, none⟩) 0 0) (.slice (some ⟨w.heap.size + 1 + 1 + 1, 0, none⟩) 0 0) ⟨[], [], []⟩ ∧
    Bx W w.heap.size #[.slice none 0 0, .slice none 0 0, .slice none 0 0] ∧ Bl w W ∧ W.heap.size = w.heap.size + 5 := by
  subst hW
  have o1 := own_madeR (w.alloc (.cells #[.slice none 0 0, .slice none 0 0, .slice none 0 0] 26)) (B := w.heap.size + 1) (by simp)
  have o2 := own_madeR ((w.alloc (.cells #[.slice none 0 0, .slice none 0 0, .slice none 0 0] 26)).alloc (.cells #[] 2)) (B := w.heap.size + 1) (by simp)
  have o3 := own_madeR (((w.alloc (.cells #[.slice none 0 0, .slice none 0 0, .slice none 0 0] 26)).alloc (.cells #[] 2)).alloc (.cells #[] 2)) (B := w.heap.size + 1) (by first | (simp; done) | (simp; omega))
  have x0 := Bx.new (b := w.heap.size) w #[.slice none 0 0, .slice none 0 0, .slice none 0 0] 26 rfl
  simp only [size_alloc1] at o1 o2 o3
  refine ⟨Bx.new _ _ _ (by simp), ⟨(((o1.alloc _).alloc _).alloc _), ((o2.alloc _).alloc _), (o3.alloc _), apart_of (by omega) _ _ _ _, apart_of (by omega) _ _ _ _, apart_of (by omega) _ _ _ _⟩, (((x0.alloc _).alloc _).alloc _).alloc _, bl_alloc (bl_alloc (bl_alloc (bl_alloc (bl_alloc (bl_refl _) _) _) _) _) _, by simp⟩

set_option maxRecDepth 100000 in
set_option maxHeartbeats 25600000 in
theorem spec_ReadSource (s : ByteArray) (w : World) (hs : s.size ≤ 1048576) :
    Calls Tryz.prog 19 #[.string s] w (RsP s.data.toList w) := by
  obtain ⟨l, hl⟩ : ∃ l, s.data.toList = l := ⟨_, rfl⟩
  have hln : l.length ≤ 1048576 := by rw [← hl, ← Lib.size_eq s]; exact hs
  have HL := Lib.hid hl
  clear hl
  rw [HL.out]
  obtain ⟨ws, hws⟩ : ∃ ws, spl 32 l = ws := ⟨_, rfl⟩
  have hn1 : ws.length ≤ 1048577 := by rw [← hws]; have := spl_numB 32 l; omega
  have HQ := Lib.hid (show ∀ q ∈ ws, q.length ≤ 1048576 by
    intro q hq; rw [← hws] at hq; have := spl_lenB (c := 32) _ l (Nat.le_refl _) q hq; omega)
  have HWS := Lib.hid hws
  clear hws
  go_enter Tryz.func19, Tryz.ntmps19
  go_wp2_with fail
  obtain ⟨x5, o5, r5, b5, z5⟩ := start5 w _ rfl
  have HSPL := lspl_any s 32
  generalize hW : ((((w.alloc (.cells #[.slice none 0 0, .slice none 0 0, .slice none 0 0] 26)).alloc (.cells #[] 2)).alloc (.cells #[] 2)).alloc (.cells #[] 2)).alloc (.cells #[.slice (some ⟨w.heap.size + 1, 0, none⟩) 0 0, .slice (some ⟨w.heap.size + 1 + 1, 0, none⟩) 0 0, .slice (some ⟨w.heap.size + 1 + 1 + 1, 0, none⟩) 0 0] 26) = W5 at *
  clear hW
  have HSPL := HSPL W5 (by omega)
  rw [HL.out, HWS.out] at HSPL
  refine HSPL.mono ?_
  clear HSPL
  rintro e w1 ⟨gw, cw, rfl, ho, B1⟩
  have hgw := ho.lt gw rfl
  have D0 : Bg w w1 (w.heap.size + 1 + 1 + 1 + 1) gw cw ws (.slice (some ⟨w.heap.size + 1, 0, none⟩) 0 0) (.slice (some ⟨w.heap.size + 1 + 1, 0, none⟩) 0 0) (.slice (some ⟨w.heap.size + 1 + 1 + 1, 0, none⟩) 0 0) ⟨[], [], []⟩ :=
    ⟨x5.below B1, o5.below B1, fun k hk => by rcases hk with q | q | q <;> (simp [Value.ownBlock] at q; omega), by omega, r5.below B1, bl_call b5 B1, ho.mono (by omega), by omega, fun k hk => by rcases hk with q | q | q <;> (simp [Value.ownBlock] at q; omega)⟩
  clear x5 o5 r5 b5 hgw ho
  have D00 := Lib.hid D0
  clear D0
  generalize w.heap.size + 1 + 1 + 1 + 1 = b at *
  go_wp2_with fail
  go_loopw [6, 7, 8, 9, 10, 11, 12] (fun s6 s7 s8 _ _ _ _ wr => ∃ (h p g : Value) (st : RS) (i : Nat), s6 = .bool st.ins ∧ s7 = .bool st.ended ∧ s8 = .int .i64 i ∧ i ≤ ws.length ∧ Hid (Bg w wr b gw cw ws h p g ⟨st.H, st.P, st.G⟩) ∧ Hid (foldS ⟨false, false, [], [], []⟩ ws = foldS st (ws.drop i) ∧ st.H.length ≤ i ∧ st.P.length ≤ i ∧ st.G.length ≤ i)) (fun _ _ s8 _ _ _ _ _ => ws.length - (intOf s8).toNat)
  case atStart => exact ⟨_, _, _, ⟨false, false, [], [], []⟩, 0, rfl, rfl, rfl, Nat.zero_le _, D00, Lib.hid ⟨by simp, Nat.le_refl _, Nat.le_refl _, Nat.le_refl _⟩⟩
  case round =>
    rcases hrel with ⟨h, p, g, ⟨ins, ended, SH, SP, SG⟩, i, rfl, rfl, rfl, hi, HD, HF⟩
    simp only at HD HF ⊢
    clear D00 B1 z5
    rcases Nat.lt_or_ge i ws.length with hlt | hge
    · obtain ⟨q, hq⟩ : ∃ q, ws[i]? = some q := ⟨_, List.getElem?_eq_getElem hlt⟩
      have hql := HQ.out q (List.mem_of_getElem? hq)
      have HQI := Lib.hid hq
      obtain ⟨Q, hQ⟩ : ∃ Q : ByteArray, (⟨q.toArray⟩ : ByteArray) = Q := ⟨_, rfl⟩
      have HQD := Lib.hid (show Q.data.toList = q by rw [← hQ])
      have hQs : Q.size ≤ 1048576 := by rw [Lib.size_eq Q, HQD.out]; exact hql
      have hcw : wr.cell? ⟨gw, i, none⟩ = some (.string Q) := by rw [← hQ]; exact HD.out.W.cell (cS_get hq)
      clear hq hQ hql
      obtain ⟨cB, fB, zB⟩ := HD.out.X.out
      obtain ⟨cR, fR, zR⟩ := HD.out.R.out
      by_cases hen : ended = true
      · subst hen
        have HB := Lib.hid (rs_fold (l := l) (by rw [HWS.out]; exact fold_bad HF.out.1 HQI.out (st_ended rfl)))
        go_wp2
        refine bodyPost_ret (v := .tuple #[.agg #[.slice none 0 0, .slice none 0 0, .slice none 0 0], .bool false]) (by simp only [results, Tryz.results19]; go_simp) rfl ?_
        refine rs_bad HB.out ?_
        repeat first | (with_reducible exact HD.out.B) | (with_reducible refine bl_set ?_ (by first | exact Nat.le_refl _ | (simp; done) | (simp; omega)) _)
      · obtain rfl : ended = false := by simpa using hen
        clear hen
        by_cases hq0 : Q.size = 0
        · have hem := (empty_yes hq0).1
          have HB := Lib.hid (rs_fold (l := l) (by rw [HWS.out]; exact fold_bad HF.out.1 HQI.out (st_empty (by rw [← HQD.out]; exact (empty_yes hq0).2))))
          clear hq0
          go_wp2
          refine bodyPost_ret (v := .tuple #[.agg #[.slice none 0 0, .slice none 0 0, .slice none 0 0], .bool false]) (by simp only [results, Tryz.results19]; go_simp) rfl ?_
          refine rs_bad HB.out ?_
          repeat first | (with_reducible exact HD.out.B) | (with_reducible refine bl_set ?_ (by first | exact Nat.le_refl _ | (simp; done) | (simp; omega)) _)
        · have hqp : 0 < Q.size := by omega
          have hem := empty_no hqp
          have HQN := Lib.hid (show q ≠ [] from fun z => by rw [Lib.size_eq Q, HQD.out, z] at hqp; simp at hqp)
          obtain ⟨qr, hqr, hqx⟩ := str_head hqp
          rw [HQD.out] at hqr
          have HQR := Lib.hid hqr
          have HQX := Lib.hid hqx
          clear hq0 hqr hqx
          by_cases hin : ins = true
          · subst hin
            have HOP := Lib.hid (show opS true q = false from rfl)
            have HT1 := Lib.hid (show Q.data.toList = w1S true q by rw [HQD.out]; rfl)
            by_cases ht0 : Q.size = 0
            · exact absurd ht0 (by omega)
            · have htp : 0 < Q.size := by omega
              have het := empty_no htp
              have hlast := str_last htp
              have hti : ((Q.size : Int) - 1).toNat = Q.size - 1 := by omega
              have htl : Q.size - 1 < Q.size := by omega
              obtain ⟨lc, hlc⟩ : ∃ x, Q[Q.size - 1] = x := ⟨_, rfl⟩
              rw [hlc] at hlast
              have HLAST := Lib.hid hlast
              clear hlast ht0
              by_cases h41 : lc = 41
              · have q41 : ((lc.toNat : Int) == 41) = true := by rw [h41]; rfl
                have HCL := Lib.hid (show clS true q = true by unfold clS; rw [← HT1.out, HLAST.out, h41, HOP.out]; rfl)
                obtain ⟨T2, hT2⟩ : ∃ T2, Q.extract 0 (Q.size - 1) = T2 := ⟨_, rfl⟩
                have hT2s : T2.size ≤ 1048576 := by rw [← hT2, ByteArray.size_extract]; omega
                have HT2 := Lib.hid (show w2S true q = T2.data.toList by unfold w2S; rw [HCL.out, ← HT1.out, ← hT2, str_front]; rfl)
                clear h41
                go_wp2_with fail
                refine (lwrd_any T2 _ (by omega)).mono ?_
                rintro e w3 ⟨n, g2, rfl, hx, B3⟩
                have HX3 := Lib.hid hx
                clear hx
                clear cB fB zB cR fR zR hcw
                have HD3 := Lib.hid (HD.out.bl B3)
                obtain ⟨cB, fB, zB⟩ := HD3.out.X.out
                obtain ⟨cR, fR, zR⟩ := HD3.out.R.out
                cases ho : wordS T2.data.toList with
                | none =>
                  have HB := Lib.hid (rs_fold (l := l) (by rw [HWS.out]; exact fold_bad HF.out.1 HQI.out (st_bad rfl HQN.out HT2.out ho)))
                  clear ho
                  go_wp2
                  refine bodyPost_ret (v := .tuple #[.agg #[.slice none 0 0, .slice none 0 0, .slice none 0 0], .bool false]) (by simp only [results, Tryz.results19]; go_simp) rfl ?_
                  refine rs_bad HB.out ?_
                  repeat first | (with_reducible exact HD3.out.B) | (with_reducible refine bl_set ?_ (by first | exact Nat.le_refl _ | (simp; done) | (simp; omega)) _)
                | some x =>
                  obtain ⟨n2, g3⟩ := x
                  have hxx := HX3.out _ ho
                  have e1 : n = n2 := (Prod.mk.inj hxx).1.symm
                  have e2 : g2 = g3 := (Prod.mk.inj hxx).2.symm
                  clear hxx
                  subst e1
                  subst e2
                  have hrn := wordS_rng ho
                  have HRN := Lib.hid hrn
                  have HST := Lib.hid (st_in (st := ⟨true, false, SH, SP, SG⟩) rfl HQN.out HT2.out ho rfl)
                  clear ho hrn
                  have HLN := Lib.hid (show SP.length ≤ 1048577 ∧ SG.length ≤ 1048577 by have := HF.out.2; (try simp only at this); omega)
                  go_wp2_with (at_builtin; first | (refine wpList_append_one rfl _ _ rfl (w.heap.size + 1) _ SP (by rfl) HD3.out.O.2.1 _ HRN.out.1 (by rfl) (by have := HLN.out; omega) (by have := HD3.out.bb; have := HD3.out.X.out.2.2; omega) ?_; intro v' wn ho hg hor; obtain ⟨P2, hP2⟩ : ∃ z, z = SP ++ [n] := ⟨_, rfl⟩; rw [← hP2] at ho; have HP2 := Lib.hid hP2; have hap := HD3.out.app1 ho hg hor (Nat.le_succ _); clear hP2 hg hor; obtain ⟨a1, c1, rfl, _⟩ := ho.form; obtain ⟨xN, D1⟩ := hap; have HD4 := Lib.hid D1; clear D1 ho cB fB zB cR fR zR; obtain ⟨cB, fB, zB⟩ := xN.out; obtain ⟨cG, fG, zG⟩ := HD4.out.X.out) | (refine wpList_append_one rfl _ _ rfl (w.heap.size + 1) _ SG (by rfl) HD4.out.O.2.2.1 _ HRN.out.2 (by first | rfl | (rw [World.heap_size_setCell]; rfl) | (simp; rfl) | (simp; done)) (by have := HLN.out; omega) (by have := HD4.out.bb; have := HD4.out.X.out.2.2; omega) ?_; intro v' wm ho hg hor; obtain ⟨G2, hG2⟩ : ∃ z, z = SG ++ [g2] := ⟨_, rfl⟩; rw [← hG2] at ho; have HG2 := Lib.hid hG2; have hap := HD4.out.app2 ho hg hor (Nat.le_succ _); clear hG2 hg hor; obtain ⟨a2, c2, rfl, _⟩ := ho.form; obtain ⟨xM, D2⟩ := hap; have HD5 := Lib.hid D2; clear D2 ho cB fB zB cG fG zG; obtain ⟨cB, fB, zB⟩ := xM.out))
                  go_wp2
                  go_roundw
                  case rel => exact ⟨_, _, _, ⟨true, true, SH, P2, G2⟩, i + 1, rfl, rfl, by simp, by omega, HD5, Lib.hid ⟨fold_next HF.out.1 HQI.out (by rw [HST.out, HP2.out, HG2.out, HCL.out]), by have := HF.out.2.1; (try simp only at this ⊢); omega, by have := HF.out.2.2.1; (try simp only at this ⊢); rw [HP2.out]; simp; omega, by have := HF.out.2.2.2; (try simp only at this ⊢); rw [HG2.out]; simp; omega⟩⟩
                  case measure => simp only [intOf, Int.toNat_natCast]; omega
              · have q41 : ((lc.toNat : Int) == 41) = false := beq_eq_false_iff_ne.2 (fun z => h41 (UInt8.toNat_inj.1 (by have : (41 : UInt8).toNat = 41 := rfl; omega)))
                have HCL := Lib.hid (show clS true q = false by unfold clS; rw [← HT1.out, HLAST.out, HOP.out]; simp [h41])
                have HT2 := Lib.hid (show w2S true q = Q.data.toList by unfold w2S; rw [HCL.out, ← HT1.out]; rfl)
                clear h41
                go_wp2_with fail
                refine (lwrd_any Q _ (by omega)).mono ?_
                rintro e w3 ⟨n, g2, rfl, hx, B3⟩
                have HX3 := Lib.hid hx
                clear hx
                clear cB fB zB cR fR zR hcw
                have HD3 := Lib.hid (HD.out.bl B3)
                obtain ⟨cB, fB, zB⟩ := HD3.out.X.out
                obtain ⟨cR, fR, zR⟩ := HD3.out.R.out
                cases ho : wordS Q.data.toList with
                | none =>
                  have HB := Lib.hid (rs_fold (l := l) (by rw [HWS.out]; exact fold_bad HF.out.1 HQI.out (st_bad rfl HQN.out HT2.out ho)))
                  clear ho
                  go_wp2
                  refine bodyPost_ret (v := .tuple #[.agg #[.slice none 0 0, .slice none 0 0, .slice none 0 0], .bool false]) (by simp only [results, Tryz.results19]; go_simp) rfl ?_
                  refine rs_bad HB.out ?_
                  repeat first | (with_reducible exact HD3.out.B) | (with_reducible refine bl_set ?_ (by first | exact Nat.le_refl _ | (simp; done) | (simp; omega)) _)
                | some x =>
                  obtain ⟨n2, g3⟩ := x
                  have hxx := HX3.out _ ho
                  have e1 : n = n2 := (Prod.mk.inj hxx).1.symm
                  have e2 : g2 = g3 := (Prod.mk.inj hxx).2.symm
                  clear hxx
                  subst e1
                  subst e2
                  have hrn := wordS_rng ho
                  have HRN := Lib.hid hrn
                  have HST := Lib.hid (st_in (st := ⟨true, false, SH, SP, SG⟩) rfl HQN.out HT2.out ho rfl)
                  clear ho hrn
                  have HLN := Lib.hid (show SP.length ≤ 1048577 ∧ SG.length ≤ 1048577 by have := HF.out.2; (try simp only at this); omega)
                  go_wp2_with (at_builtin; first | (refine wpList_append_one rfl _ _ rfl (w.heap.size + 1) _ SP (by rfl) HD3.out.O.2.1 _ HRN.out.1 (by rfl) (by have := HLN.out; omega) (by have := HD3.out.bb; have := HD3.out.X.out.2.2; omega) ?_; intro v' wn ho hg hor; obtain ⟨P2, hP2⟩ : ∃ z, z = SP ++ [n] := ⟨_, rfl⟩; rw [← hP2] at ho; have HP2 := Lib.hid hP2; have hap := HD3.out.app1 ho hg hor (Nat.le_succ _); clear hP2 hg hor; obtain ⟨a1, c1, rfl, _⟩ := ho.form; obtain ⟨xN, D1⟩ := hap; have HD4 := Lib.hid D1; clear D1 ho cB fB zB cR fR zR; obtain ⟨cB, fB, zB⟩ := xN.out; obtain ⟨cG, fG, zG⟩ := HD4.out.X.out) | (refine wpList_append_one rfl _ _ rfl (w.heap.size + 1) _ SG (by rfl) HD4.out.O.2.2.1 _ HRN.out.2 (by first | rfl | (rw [World.heap_size_setCell]; rfl) | (simp; rfl) | (simp; done)) (by have := HLN.out; omega) (by have := HD4.out.bb; have := HD4.out.X.out.2.2; omega) ?_; intro v' wm ho hg hor; obtain ⟨G2, hG2⟩ : ∃ z, z = SG ++ [g2] := ⟨_, rfl⟩; rw [← hG2] at ho; have HG2 := Lib.hid hG2; have hap := HD4.out.app2 ho hg hor (Nat.le_succ _); clear hG2 hg hor; obtain ⟨a2, c2, rfl, _⟩ := ho.form; obtain ⟨xM, D2⟩ := hap; have HD5 := Lib.hid D2; clear D2 ho cB fB zB cG fG zG; obtain ⟨cB, fB, zB⟩ := xM.out))
                  go_wp2
                  go_roundw
                  case rel => exact ⟨_, _, _, ⟨true, false, SH, P2, G2⟩, i + 1, rfl, rfl, by simp, by omega, HD5, Lib.hid ⟨fold_next HF.out.1 HQI.out (by rw [HST.out, HP2.out, HG2.out, HCL.out]), by have := HF.out.2.1; (try simp only at this ⊢); omega, by have := HF.out.2.2.1; (try simp only at this ⊢); rw [HP2.out]; simp; omega, by have := HF.out.2.2.2; (try simp only at this ⊢); rw [HG2.out]; simp; omega⟩⟩
                  case measure => simp only [intOf, Int.toNat_natCast]; omega
          · obtain rfl : ins = false := by simpa using hin
            clear hin
            by_cases h40 : Q[0] = 40
            · have q40 : ((Q[0].toNat : Int) == 40) = true := by rw [h40]; rfl
              have HOP := Lib.hid (show opS false q = true by rw [HQR.out, opS, h40]; rfl)
              obtain ⟨T1, hT1⟩ : ∃ T1, Q.extract 1 Q.size = T1 := ⟨_, rfl⟩
              have hT1s : T1.size ≤ 1048576 := by rw [← hT1, ByteArray.size_extract]; omega
              have HT1 := Lib.hid (show T1.data.toList = w1S false q by unfold w1S; rw [HOP.out, ← hT1, HQX.out, HQR.out]; rfl)
              clear h40
              by_cases ht0 : T1.size = 0
              · have het := (empty_yes ht0).1
                have HCL := Lib.hid (show clS false q = false by unfold clS; rw [← HT1.out, (empty_yes ht0).2]; simp)
                have HT2 := Lib.hid (show w2S false q = T1.data.toList by unfold w2S; rw [HCL.out, ← HT1.out]; rfl)
                clear ht0
                go_wp2_with fail
                refine (lwrd_any T1 _ (by omega)).mono ?_
                rintro e w3 ⟨n, g2, rfl, hx, B3⟩
                have HX3 := Lib.hid hx
                clear hx
                clear cB fB zB cR fR zR hcw
                have HD3 := Lib.hid (HD.out.bl B3)
                obtain ⟨cB, fB, zB⟩ := HD3.out.X.out
                obtain ⟨cR, fR, zR⟩ := HD3.out.R.out
                cases ho : wordS T1.data.toList with
                | none =>
                  have HB := Lib.hid (rs_fold (l := l) (by rw [HWS.out]; exact fold_bad HF.out.1 HQI.out (st_bad rfl HQN.out HT2.out ho)))
                  clear ho
                  go_wp2
                  refine bodyPost_ret (v := .tuple #[.agg #[.slice none 0 0, .slice none 0 0, .slice none 0 0], .bool false]) (by simp only [results, Tryz.results19]; go_simp) rfl ?_
                  refine rs_bad HB.out ?_
                  repeat first | (with_reducible exact HD3.out.B) | (with_reducible refine bl_set ?_ (by first | exact Nat.le_refl _ | (simp; done) | (simp; omega)) _)
                | some x =>
                  obtain ⟨n2, g3⟩ := x
                  have hxx := HX3.out _ ho
                  have e1 : n = n2 := (Prod.mk.inj hxx).1.symm
                  have e2 : g2 = g3 := (Prod.mk.inj hxx).2.symm
                  clear hxx
                  subst e1
                  subst e2
                  have hrn := wordS_rng ho
                  have HRN := Lib.hid hrn
                  have HST := Lib.hid (st_in (st := ⟨false, false, SH, SP, SG⟩) rfl HQN.out HT2.out ho (by rw [HOP.out]; rfl))
                  clear ho hrn
                  have HLN := Lib.hid (show SP.length ≤ 1048577 ∧ SG.length ≤ 1048577 by have := HF.out.2; (try simp only at this); omega)
                  go_wp2_with (at_builtin; first | (refine wpList_append_one rfl _ _ rfl (w.heap.size + 1) _ SP (by rfl) HD3.out.O.2.1 _ HRN.out.1 (by rfl) (by have := HLN.out; omega) (by have := HD3.out.bb; have := HD3.out.X.out.2.2; omega) ?_; intro v' wn ho hg hor; obtain ⟨P2, hP2⟩ : ∃ z, z = SP ++ [n] := ⟨_, rfl⟩; rw [← hP2] at ho; have HP2 := Lib.hid hP2; have hap := HD3.out.app1 ho hg hor (Nat.le_succ _); clear hP2 hg hor; obtain ⟨a1, c1, rfl, _⟩ := ho.form; obtain ⟨xN, D1⟩ := hap; have HD4 := Lib.hid D1; clear D1 ho cB fB zB cR fR zR; obtain ⟨cB, fB, zB⟩ := xN.out; obtain ⟨cG, fG, zG⟩ := HD4.out.X.out) | (refine wpList_append_one rfl _ _ rfl (w.heap.size + 1) _ SG (by rfl) HD4.out.O.2.2.1 _ HRN.out.2 (by first | rfl | (rw [World.heap_size_setCell]; rfl) | (simp; rfl) | (simp; done)) (by have := HLN.out; omega) (by have := HD4.out.bb; have := HD4.out.X.out.2.2; omega) ?_; intro v' wm ho hg hor; obtain ⟨G2, hG2⟩ : ∃ z, z = SG ++ [g2] := ⟨_, rfl⟩; rw [← hG2] at ho; have HG2 := Lib.hid hG2; have hap := HD4.out.app2 ho hg hor (Nat.le_succ _); clear hG2 hg hor; obtain ⟨a2, c2, rfl, _⟩ := ho.form; obtain ⟨xM, D2⟩ := hap; have HD5 := Lib.hid D2; clear D2 ho cB fB zB cG fG zG; obtain ⟨cB, fB, zB⟩ := xM.out))
                  go_wp2
                  go_roundw
                  case rel => exact ⟨_, _, _, ⟨true, false, SH, P2, G2⟩, i + 1, rfl, rfl, by simp, by omega, HD5, Lib.hid ⟨fold_next HF.out.1 HQI.out (by rw [HST.out, HP2.out, HG2.out, HCL.out]), by have := HF.out.2.1; (try simp only at this ⊢); omega, by have := HF.out.2.2.1; (try simp only at this ⊢); rw [HP2.out]; simp; omega, by have := HF.out.2.2.2; (try simp only at this ⊢); rw [HG2.out]; simp; omega⟩⟩
                  case measure => simp only [intOf, Int.toNat_natCast]; omega
              · have htp : 0 < T1.size := by omega
                have het := empty_no htp
                have hlast := str_last htp
                have hti : ((T1.size : Int) - 1).toNat = T1.size - 1 := by omega
                have htl : T1.size - 1 < T1.size := by omega
                obtain ⟨lc, hlc⟩ : ∃ x, T1[T1.size - 1] = x := ⟨_, rfl⟩
                rw [hlc] at hlast
                have HLAST := Lib.hid hlast
                clear hlast ht0
                by_cases h41 : lc = 41
                · have q41 : ((lc.toNat : Int) == 41) = true := by rw [h41]; rfl
                  have HCL := Lib.hid (show clS false q = true by unfold clS; rw [← HT1.out, HLAST.out, h41, HOP.out]; rfl)
                  obtain ⟨T2, hT2⟩ : ∃ T2, T1.extract 0 (T1.size - 1) = T2 := ⟨_, rfl⟩
                  have hT2s : T2.size ≤ 1048576 := by rw [← hT2, ByteArray.size_extract]; omega
                  have HT2 := Lib.hid (show w2S false q = T2.data.toList by unfold w2S; rw [HCL.out, ← HT1.out, ← hT2, str_front]; rfl)
                  clear h41
                  go_wp2_with fail
                  refine (lwrd_any T2 _ (by omega)).mono ?_
                  rintro e w3 ⟨n, g2, rfl, hx, B3⟩
                  have HX3 := Lib.hid hx
                  clear hx
                  clear cB fB zB cR fR zR hcw
                  have HD3 := Lib.hid (HD.out.bl B3)
                  obtain ⟨cB, fB, zB⟩ := HD3.out.X.out
                  obtain ⟨cR, fR, zR⟩ := HD3.out.R.out
                  cases ho : wordS T2.data.toList with
                  | none =>
                    have HB := Lib.hid (rs_fold (l := l) (by rw [HWS.out]; exact fold_bad HF.out.1 HQI.out (st_bad rfl HQN.out HT2.out ho)))
                    clear ho
                    go_wp2
                    refine bodyPost_ret (v := .tuple #[.agg #[.slice none 0 0, .slice none 0 0, .slice none 0 0], .bool false]) (by simp only [results, Tryz.results19]; go_simp) rfl ?_
                    refine rs_bad HB.out ?_
                    repeat first | (with_reducible exact HD3.out.B) | (with_reducible refine bl_set ?_ (by first | exact Nat.le_refl _ | (simp; done) | (simp; omega)) _)
                  | some x =>
                    obtain ⟨n2, g3⟩ := x
                    have hxx := HX3.out _ ho
                    have e1 : n = n2 := (Prod.mk.inj hxx).1.symm
                    have e2 : g2 = g3 := (Prod.mk.inj hxx).2.symm
                    clear hxx
                    subst e1
                    subst e2
                    have hrn := wordS_rng ho
                    have HRN := Lib.hid hrn
                    have HST := Lib.hid (st_in (st := ⟨false, false, SH, SP, SG⟩) rfl HQN.out HT2.out ho (by rw [HOP.out]; rfl))
                    clear ho hrn
                    have HLN := Lib.hid (show SP.length ≤ 1048577 ∧ SG.length ≤ 1048577 by have := HF.out.2; (try simp only at this); omega)
                    go_wp2_with (at_builtin; first | (refine wpList_append_one rfl _ _ rfl (w.heap.size + 1) _ SP (by rfl) HD3.out.O.2.1 _ HRN.out.1 (by rfl) (by have := HLN.out; omega) (by have := HD3.out.bb; have := HD3.out.X.out.2.2; omega) ?_; intro v' wn ho hg hor; obtain ⟨P2, hP2⟩ : ∃ z, z = SP ++ [n] := ⟨_, rfl⟩; rw [← hP2] at ho; have HP2 := Lib.hid hP2; have hap := HD3.out.app1 ho hg hor (Nat.le_succ _); clear hP2 hg hor; obtain ⟨a1, c1, rfl, _⟩ := ho.form; obtain ⟨xN, D1⟩ := hap; have HD4 := Lib.hid D1; clear D1 ho cB fB zB cR fR zR; obtain ⟨cB, fB, zB⟩ := xN.out; obtain ⟨cG, fG, zG⟩ := HD4.out.X.out) | (refine wpList_append_one rfl _ _ rfl (w.heap.size + 1) _ SG (by rfl) HD4.out.O.2.2.1 _ HRN.out.2 (by first | rfl | (rw [World.heap_size_setCell]; rfl) | (simp; rfl) | (simp; done)) (by have := HLN.out; omega) (by have := HD4.out.bb; have := HD4.out.X.out.2.2; omega) ?_; intro v' wm ho hg hor; obtain ⟨G2, hG2⟩ : ∃ z, z = SG ++ [g2] := ⟨_, rfl⟩; rw [← hG2] at ho; have HG2 := Lib.hid hG2; have hap := HD4.out.app2 ho hg hor (Nat.le_succ _); clear hG2 hg hor; obtain ⟨a2, c2, rfl, _⟩ := ho.form; obtain ⟨xM, D2⟩ := hap; have HD5 := Lib.hid D2; clear D2 ho cB fB zB cG fG zG; obtain ⟨cB, fB, zB⟩ := xM.out))
                    go_wp2
                    go_roundw
                    case rel => exact ⟨_, _, _, ⟨true, true, SH, P2, G2⟩, i + 1, rfl, rfl, by simp, by omega, HD5, Lib.hid ⟨fold_next HF.out.1 HQI.out (by rw [HST.out, HP2.out, HG2.out, HCL.out]), by have := HF.out.2.1; (try simp only at this ⊢); omega, by have := HF.out.2.2.1; (try simp only at this ⊢); rw [HP2.out]; simp; omega, by have := HF.out.2.2.2; (try simp only at this ⊢); rw [HG2.out]; simp; omega⟩⟩
                    case measure => simp only [intOf, Int.toNat_natCast]; omega
                · have q41 : ((lc.toNat : Int) == 41) = false := beq_eq_false_iff_ne.2 (fun z => h41 (UInt8.toNat_inj.1 (by have : (41 : UInt8).toNat = 41 := rfl; omega)))
                  have HCL := Lib.hid (show clS false q = false by unfold clS; rw [← HT1.out, HLAST.out, HOP.out]; simp [h41])
                  have HT2 := Lib.hid (show w2S false q = T1.data.toList by unfold w2S; rw [HCL.out, ← HT1.out]; rfl)
                  clear h41
                  go_wp2_with fail
                  refine (lwrd_any T1 _ (by omega)).mono ?_
                  rintro e w3 ⟨n, g2, rfl, hx, B3⟩
                  have HX3 := Lib.hid hx
                  clear hx
                  clear cB fB zB cR fR zR hcw
                  have HD3 := Lib.hid (HD.out.bl B3)
                  obtain ⟨cB, fB, zB⟩ := HD3.out.X.out
                  obtain ⟨cR, fR, zR⟩ := HD3.out.R.out
                  cases ho : wordS T1.data.toList with
                  | none =>
                    have HB := Lib.hid (rs_fold (l := l) (by rw [HWS.out]; exact fold_bad HF.out.1 HQI.out (st_bad rfl HQN.out HT2.out ho)))
                    clear ho
                    go_wp2
                    refine bodyPost_ret (v := .tuple #[.agg #[.slice none 0 0, .slice none 0 0, .slice none 0 0], .bool false]) (by simp only [results, Tryz.results19]; go_simp) rfl ?_
                    refine rs_bad HB.out ?_
                    repeat first | (with_reducible exact HD3.out.B) | (with_reducible refine bl_set ?_ (by first | exact Nat.le_refl _ | (simp; done) | (simp; omega)) _)
                  | some x =>
                    obtain ⟨n2, g3⟩ := x
                    have hxx := HX3.out _ ho
                    have e1 : n = n2 := (Prod.mk.inj hxx).1.symm
                    have e2 : g2 = g3 := (Prod.mk.inj hxx).2.symm
                    clear hxx
                    subst e1
                    subst e2
                    have hrn := wordS_rng ho
                    have HRN := Lib.hid hrn
                    have HST := Lib.hid (st_in (st := ⟨false, false, SH, SP, SG⟩) rfl HQN.out HT2.out ho (by rw [HOP.out]; rfl))
                    clear ho hrn
                    have HLN := Lib.hid (show SP.length ≤ 1048577 ∧ SG.length ≤ 1048577 by have := HF.out.2; (try simp only at this); omega)
                    go_wp2_with (at_builtin; first | (refine wpList_append_one rfl _ _ rfl (w.heap.size + 1) _ SP (by rfl) HD3.out.O.2.1 _ HRN.out.1 (by rfl) (by have := HLN.out; omega) (by have := HD3.out.bb; have := HD3.out.X.out.2.2; omega) ?_; intro v' wn ho hg hor; obtain ⟨P2, hP2⟩ : ∃ z, z = SP ++ [n] := ⟨_, rfl⟩; rw [← hP2] at ho; have HP2 := Lib.hid hP2; have hap := HD3.out.app1 ho hg hor (Nat.le_succ _); clear hP2 hg hor; obtain ⟨a1, c1, rfl, _⟩ := ho.form; obtain ⟨xN, D1⟩ := hap; have HD4 := Lib.hid D1; clear D1 ho cB fB zB cR fR zR; obtain ⟨cB, fB, zB⟩ := xN.out; obtain ⟨cG, fG, zG⟩ := HD4.out.X.out) | (refine wpList_append_one rfl _ _ rfl (w.heap.size + 1) _ SG (by rfl) HD4.out.O.2.2.1 _ HRN.out.2 (by first | rfl | (rw [World.heap_size_setCell]; rfl) | (simp; rfl) | (simp; done)) (by have := HLN.out; omega) (by have := HD4.out.bb; have := HD4.out.X.out.2.2; omega) ?_; intro v' wm ho hg hor; obtain ⟨G2, hG2⟩ : ∃ z, z = SG ++ [g2] := ⟨_, rfl⟩; rw [← hG2] at ho; have HG2 := Lib.hid hG2; have hap := HD4.out.app2 ho hg hor (Nat.le_succ _); clear hG2 hg hor; obtain ⟨a2, c2, rfl, _⟩ := ho.form; obtain ⟨xM, D2⟩ := hap; have HD5 := Lib.hid D2; clear D2 ho cB fB zB cG fG zG; obtain ⟨cB, fB, zB⟩ := xM.out))
                    go_wp2
                    go_roundw
                    case rel => exact ⟨_, _, _, ⟨true, false, SH, P2, G2⟩, i + 1, rfl, rfl, by simp, by omega, HD5, Lib.hid ⟨fold_next HF.out.1 HQI.out (by rw [HST.out, HP2.out, HG2.out, HCL.out]), by have := HF.out.2.1; (try simp only at this ⊢); omega, by have := HF.out.2.2.1; (try simp only at this ⊢); rw [HP2.out]; simp; omega, by have := HF.out.2.2.2; (try simp only at this ⊢); rw [HG2.out]; simp; omega⟩⟩
                    case measure => simp only [intOf, Int.toNat_natCast]; omega
            · have q40 : ((Q[0].toNat : Int) == 40) = false := beq_eq_false_iff_ne.2 (fun z => h40 (UInt8.toNat_inj.1 (by have : (40 : UInt8).toNat = 40 := rfl; omega)))
              have HOP := Lib.hid (show opS false q = false by rw [HQR.out, opS]; simp [h40])
              have HCL := Lib.hid (show clS false q = false by unfold clS; rw [HOP.out]; rfl)
              have HT2 := Lib.hid (show w2S false q = Q.data.toList by unfold w2S w1S; rw [HCL.out, HOP.out, HQD.out]; rfl)
              clear h40
              go_wp2_with fail
              refine (lwrd_any Q _ (by omega)).mono ?_
              rintro e w3 ⟨n, g2, rfl, hx, B3⟩
              have HX3 := Lib.hid hx
              clear hx
              clear cB fB zB cR fR zR hcw
              have HD3 := Lib.hid (HD.out.bl B3)
              obtain ⟨cB, fB, zB⟩ := HD3.out.X.out
              obtain ⟨cR, fR, zR⟩ := HD3.out.R.out
              cases ho : wordS Q.data.toList with
              | none =>
                have HB := Lib.hid (rs_fold (l := l) (by rw [HWS.out]; exact fold_bad HF.out.1 HQI.out (st_bad rfl HQN.out HT2.out ho)))
                clear ho
                go_wp2
                refine bodyPost_ret (v := .tuple #[.agg #[.slice none 0 0, .slice none 0 0, .slice none 0 0], .bool false]) (by simp only [results, Tryz.results19]; go_simp) rfl ?_
                refine rs_bad HB.out ?_
                repeat first | (with_reducible exact HD3.out.B) | (with_reducible refine bl_set ?_ (by first | exact Nat.le_refl _ | (simp; done) | (simp; omega)) _)
              | some x =>
                obtain ⟨n2, g3⟩ := x
                have hxx := HX3.out _ ho
                have e1 : n = n2 := (Prod.mk.inj hxx).1.symm
                have e2 : g2 = g3 := (Prod.mk.inj hxx).2.symm
                clear hxx
                subst e1
                subst e2
                have hrn := wordS_rng ho
                have HRN := Lib.hid hrn
                by_cases hg0 : 0 < g2
                · have HB := Lib.hid (rs_fold (l := l) (by rw [HWS.out]; exact fold_bad HF.out.1 HQI.out (st_out_no (st := ⟨false, false, SH, SP, SG⟩) rfl HQN.out HT2.out ho (by rw [HOP.out]; rfl) hg0)))
                  clear ho
                  go_wp2
                  refine bodyPost_ret (v := .tuple #[.agg #[.slice none 0 0, .slice none 0 0, .slice none 0 0], .bool false]) (by simp only [results, Tryz.results19]; go_simp) rfl ?_
                  refine rs_bad HB.out ?_
                  repeat first | (with_reducible exact HD3.out.B) | (with_reducible refine bl_set ?_ (by first | exact Nat.le_refl _ | (simp; done) | (simp; omega)) _)
                · have HST := Lib.hid (st_out (st := ⟨false, false, SH, SP, SG⟩) rfl HQN.out HT2.out ho (by rw [HOP.out]; rfl) hg0)
                  clear ho hrn
                  have HLN := Lib.hid (show SH.length ≤ 1048577 by have := HF.out.2; (try simp only at this); omega)
                  go_wp2_with (at_builtin; refine wpList_append_one rfl _ _ rfl (w.heap.size + 1) _ SH (by rfl) HD3.out.O.1 _ HRN.out.1 (by rfl) (by have := HLN.out; omega) (by have := HD3.out.bb; have := HD3.out.X.out.2.2; omega) ?_; intro v' wn ho hg hor; obtain ⟨P2, hP2⟩ : ∃ z, z = SH ++ [n] := ⟨_, rfl⟩; rw [← hP2] at ho; have HP2 := Lib.hid hP2; have hap := HD3.out.app0 ho hg hor (Nat.le_succ _); clear hP2 hg hor; obtain ⟨a1, c1, rfl, _⟩ := ho.form; obtain ⟨xN, D1⟩ := hap; have HD4 := Lib.hid D1; clear D1 ho cB fB zB cR fR zR; obtain ⟨cB, fB, zB⟩ := xN.out)
                  go_wp2
                  go_roundw
                  case rel => exact ⟨_, _, _, ⟨false, false, P2, SP, SG⟩, i + 1, rfl, rfl, by simp, by omega, HD4, Lib.hid ⟨fold_next HF.out.1 HQI.out (by rw [HST.out, HP2.out]), by have := HF.out.2.1; (try simp only at this ⊢); rw [HP2.out]; simp; omega, by have := HF.out.2.2.1; (try simp only at this ⊢); omega, by have := HF.out.2.2.2; (try simp only at this ⊢); omega⟩⟩
                  case measure => simp only [intOf, Int.toNat_natCast]; omega
    · obtain rfl : i = ws.length := by omega
      have HFE := Lib.hid (show foldS ⟨false, false, [], [], []⟩ (spl 32 l) = some ⟨ins, ended, SH, SP, SG⟩ by rw [HWS.out, HF.out.1, List.drop_length]; rfl)
      obtain ⟨cB, fB, zB⟩ := HD.out.X.out
      obtain ⟨cR, fR, zR⟩ := HD.out.R.out
      cases ins
      all_goals cases ended
      · cases hok : okSrc ⟨SH, SP, SG⟩ with
        | false =>
          have HB := Lib.hid (rs_end_no HFE.out (fun z => by rw [okSrc_iff.2 ((vs_ok (s := ⟨SH, SP, SG⟩)).2 z.2)] at hok; cases hok))
          go_wp2_with fail
          refine (svalid_any h p g ⟨SH, SP, SG⟩ _ b HD.out.O.sl HD.out.X).mono ?_
          rintro e w3 ⟨he, B3⟩
          rw [hok] at he
          subst he
          have HD3 := Lib.hid (HD.out.bl B3)
          clear cB fB zB cR fR zR
          obtain ⟨cB, fB, zB⟩ := HD3.out.X.out
          obtain ⟨cR, fR, zR⟩ := HD3.out.R.out
          go_wp2
          refine bodyPost_ret (v := .tuple #[.agg #[.slice none 0 0, .slice none 0 0, .slice none 0 0], .bool false]) (by simp only [results, Tryz.results19]; go_simp) rfl ?_
          refine rs_bad HB.out ?_
          repeat first | (with_reducible exact HD3.out.B) | (with_reducible refine bl_set ?_ (by first | exact Nat.le_refl _ | (simp; done) | (simp; omega)) _)
        | true =>
          have HG := Lib.hid (rs_end HFE.out ⟨rfl, (vs_ok (s := ⟨SH, SP, SG⟩)).1 (okSrc_iff.1 hok)⟩)
          go_wp2_with fail
          refine (svalid_any h p g ⟨SH, SP, SG⟩ _ b HD.out.O.sl HD.out.X).mono ?_
          rintro e w3 ⟨he, B3⟩
          rw [hok] at he
          subst he
          have HD3 := Lib.hid (HD.out.bl B3)
          clear cB fB zB cR fR zR
          obtain ⟨ah, ch, hh, _⟩ := HD3.out.O.1.form
          obtain ⟨ap, cp, hp, _⟩ := HD3.out.O.2.1.form
          obtain ⟨ag, cg, hg, _⟩ := HD3.out.O.2.2.1.form
          subst hh
          subst hp
          subst hg
          obtain ⟨cB, fB, zB⟩ := HD3.out.X.out
          obtain ⟨cR, fR, zR⟩ := HD3.out.R.out
          go_wp2
          refine bodyPost_ret (v := .tuple #[.agg #[.slice ah SH.length ch, .slice ap SP.length cp, .slice ag SG.length cg], .bool true]) (by simp only [results, Tryz.results19]; go_simp) rfl ?_
          exact rs_good HG.out HD3.out (only_set3 _ _ _ _ _)
      · have HB := Lib.hid (rs_end_no HFE.out (fun z => by have := z.1; cases this))
        go_wp2
        refine bodyPost_ret (v := .tuple #[.agg #[.slice none 0 0, .slice none 0 0, .slice none 0 0], .bool false]) (by simp only [results, Tryz.results19]; go_simp) rfl ?_
        refine rs_bad HB.out ?_
        repeat first | (with_reducible exact HD.out.B) | (with_reducible refine bl_set ?_ (by first | exact Nat.le_refl _ | (simp; done) | (simp; omega)) _)
      · have HB := Lib.hid (rs_end_no HFE.out (fun z => by have := z.1; cases this))
        go_wp2
        refine bodyPost_ret (v := .tuple #[.agg #[.slice none 0 0, .slice none 0 0, .slice none 0 0], .bool false]) (by simp only [results, Tryz.results19]; go_simp) rfl ?_
        refine rs_bad HB.out ?_
        repeat first | (with_reducible exact HD.out.B) | (with_reducible refine bl_set ?_ (by first | exact Nat.le_refl _ | (simp; done) | (simp; omega)) _)
      · cases hok : okSrc ⟨SH, SP, SG⟩ with
        | false =>
          have HB := Lib.hid (rs_end_no HFE.out (fun z => by rw [okSrc_iff.2 ((vs_ok (s := ⟨SH, SP, SG⟩)).2 z.2)] at hok; cases hok))
          go_wp2_with fail
          refine (svalid_any h p g ⟨SH, SP, SG⟩ _ b HD.out.O.sl HD.out.X).mono ?_
          rintro e w3 ⟨he, B3⟩
          rw [hok] at he
          subst he
          have HD3 := Lib.hid (HD.out.bl B3)
          clear cB fB zB cR fR zR
          obtain ⟨cB, fB, zB⟩ := HD3.out.X.out
          obtain ⟨cR, fR, zR⟩ := HD3.out.R.out
          go_wp2
          refine bodyPost_ret (v := .tuple #[.agg #[.slice none 0 0, .slice none 0 0, .slice none 0 0], .bool false]) (by simp only [results, Tryz.results19]; go_simp) rfl ?_
          refine rs_bad HB.out ?_
          repeat first | (with_reducible exact HD3.out.B) | (with_reducible refine bl_set ?_ (by first | exact Nat.le_refl _ | (simp; done) | (simp; omega)) _)
        | true =>
          have HG := Lib.hid (rs_end HFE.out ⟨rfl, (vs_ok (s := ⟨SH, SP, SG⟩)).1 (okSrc_iff.1 hok)⟩)
          go_wp2_with fail
          refine (svalid_any h p g ⟨SH, SP, SG⟩ _ b HD.out.O.sl HD.out.X).mono ?_
          rintro e w3 ⟨he, B3⟩
          rw [hok] at he
          subst he
          have HD3 := Lib.hid (HD.out.bl B3)
          clear cB fB zB cR fR zR
          obtain ⟨ah, ch, hh, _⟩ := HD3.out.O.1.form
          obtain ⟨ap, cp, hp, _⟩ := HD3.out.O.2.1.form
          obtain ⟨ag, cg, hg, _⟩ := HD3.out.O.2.2.1.form
          subst hh
          subst hp
          subst hg
          obtain ⟨cB, fB, zB⟩ := HD3.out.X.out
          obtain ⟨cR, fR, zR⟩ := HD3.out.R.out
          go_wp2
          refine bodyPost_ret (v := .tuple #[.agg #[.slice ah SH.length ch, .slice ap SP.length cp, .slice ag SG.length cg], .bool true]) (by simp only [results, Tryz.results19]; go_simp) rfl ?_
          exact rs_good HG.out HD3.out (only_set3 _ _ _ _ _)

end Go.Proofs.YtndblondleclpaaGreatDoor

/- Texts of sources, as the program reads them. Each theorem names its conditions. -/
namespace Go.Proofs.YtndblondleclpaaGreatDoor
open Go.RowKit
set_option linter.unusedVariables false
set_option linter.unusedSimpArgs false

theorem split_words (s : ByteArray) : Lib.countB s ⟨#[32]⟩ + 1 = (spl 32 s.data.toList).length ∧ (Lib.splitB ⟨#[32]⟩ 0 (Lib.countB s ⟨#[32]⟩) s).map Value.string = cS (spl 32 s.data.toList) := by
  have d := Lib.splitB_data ⟨#[32]⟩ 0 (Lib.countB s ⟨#[32]⟩) s
  have e : Lib.splitK (⟨#[32]⟩ : ByteArray).data.toList 0 (Lib.countB s ⟨#[32]⟩) s.data.toList = spl 32 s.data.toList := split_spl 32 _ _ (Nat.le_refl _)
  rw [e] at d
  have n := Lib.splitB_all ⟨#[32]⟩ (by decide) 0 _ s rfl
  refine ⟨by rw [← n, ← d, List.length_map], ?_⟩
  rw [← d]
  unfold cS
  rw [List.map_map]
  refine List.map_congr_left fun x _ => ?_
  simp
theorem owS_new (w : World) {B : Nat} (hB : B ≤ w.heap.size) (ws : List (List UInt8)) (hl : ws.length ≤ 1048577) (e : TypeId) : OwS (w.alloc (.cells (cS ws).toArray e)) B (.slice (some ⟨w.heap.size, 0, none⟩) ws.length ws.length) ws := by
  refine ⟨cS_one _, .inr ⟨w.heap.size, ws.length, by rw [cS_len], hB, by rw [cS_len]; exact Nat.le_refl _, by simp [maxLen]; omega, by simp, fun i u hi => ?_, fun j hj => ?_⟩⟩
  · simp [hi]
  · have : j < (cS ws).length := by rw [cS_len]; exact hj
    simp [this]
theorem tp_le (l : List UInt8) (c : UInt8) : (Lib.trimPrefix l [c]).length ≤ l.length := by
  unfold Lib.trimPrefix; split <;> simp
theorem ts_le (l : List UInt8) (c : UInt8) : (Lib.trimSuffix l [c]).length ≤ l.length := by
  unfold Lib.trimSuffix; split <;> simp
theorem cut_leI (l : List UInt8) (c : UInt8) : (Lib.cut l [c]).1.length ≤ l.length ∧ (Lib.cut l [c]).2.1.length ≤ l.length := by
  rcases cut_spl c l with ⟨_, e, _⟩ | ⟨a, b, rfl, _, e, _⟩
  · rw [e]; simp
  · rw [e]; simp; omega
structure WI (q : List UInt8) (f b1 : Bool) (n1 : Int) (b2 : Bool) (n2 : Int) : Prop where
  no1 : b1 = false → ∀ st, stepI st q = none
  no2 : b1 = true → f ≠ b2 → ∀ st, stepI st q = none
  inn : b1 = true → f = b2 → ∀ st : PS, (st.ins || Lib.hasPrefix q [40]) = true → stepI st q = some ⟨true, st.H, st.P ++ [n1], st.G ++ [n2]⟩
  out : b1 = true → f = b2 → ∀ st : PS, (st.ins || Lib.hasPrefix q [40]) = false → stepI st q = some ⟨false, st.H ++ [n1], st.P, st.G⟩
  r1 : R64 n1
  r2 : R64 n2
theorem rdec_r64 (l : List UInt8) : R64 ((rdec l).getD 0) := by
  cases h : rdec l with
  | none => unfold R64; simp
  | some m => have := (rdec_some h).2; unfold R64; simp only [Option.getD_some]; omega
theorem word_I (q : List UInt8) {A Bt : List UInt8} {f : Bool} (hc : Lib.cut (Lib.trimSuffix (Lib.trimPrefix q [40]) [41]) [43] = (A, Bt, f)) :
    WI q f (rdec A).isSome ((rdec A).getD 0) (rdec Bt).isSome ((rdec Bt).getD 0) := by
  refine ⟨fun h st => ?_, fun h1 h2 st => ?_, fun h1 h2 st hi => ?_, fun h1 h2 st hi => ?_, rdec_r64 _, rdec_r64 _⟩
  · unfold stepI; rw [hc]; simp only
    cases hr : rdec A with
    | none => rfl
    | some t => rw [hr] at h; cases h
  · unfold stepI; rw [hc]; simp only
    cases hr : rdec A with
    | none => rfl
    | some t => simp only; rw [if_neg h2]
  · unfold stepI; rw [hc]; simp only
    cases hr : rdec A with
    | none => rw [hr] at h1; cases h1
    | some t => simp only; rw [if_pos h2, if_pos hi]; rfl
  · unfold stepI; rw [hc]; simp only
    cases hr : rdec A with
    | none => rw [hr] at h1; cases h1
    | some t => simp only; rw [if_pos h2, if_neg (by rw [hi]; simp)]; rfl
theorem foldI_next {ws : List (List UInt8)} {st0 st st' : PS} {i : Nat} {q : List UInt8} (hf : foldI st0 ws = foldI st (ws.drop i)) (hq : ws[i]? = some q) (hs : stepI st q = some st') : foldI st0 ws = foldI st' (ws.drop (i + 1)) := by
  have hi := (List.getElem?_eq_some_iff.1 hq).1
  rw [hf, List.drop_eq_getElem_cons hi, (List.getElem?_eq_some_iff.1 hq).2, foldI, hs]
theorem foldI_bad {ws : List (List UInt8)} {st0 st : PS} {i : Nat} {q : List UInt8} (hf : foldI st0 ws = foldI st (ws.drop i)) (hq : ws[i]? = some q) (hs : stepI st q = none) : foldI st0 ws = none := by
  have hi := (List.getElem?_eq_some_iff.1 hq).1
  rw [hf, List.drop_eq_getElem_cons hi, (List.getElem?_eq_some_iff.1 hq).2, foldI, hs]
theorem ri_fold {l : List UInt8} (h : foldI ⟨false, [], [], []⟩ (spl 32 l) = none) : rsS l = none := by rw [← rs_eq]; unfold rsI; rw [h]
theorem ri_end {l : List UInt8} {st : PS} (h : foldI ⟨false, [], [], []⟩ (spl 32 l) = some st) (hv : stxt st.H st.P st.G = l) : rsS l = some (st.H, st.P, st.G) := by rw [← rs_eq]; unfold rsI; rw [h]; simp only; rw [if_pos hv]
theorem ri_end_no {l : List UInt8} {st : PS} (h : foldI ⟨false, [], [], []⟩ (spl 32 l) = some st) (hv : stxt st.H st.P st.G ≠ l) : rsS l = none := by rw [← rs_eq]; unfold rsI; rw [h]; simp only; rw [if_neg hv]
theorem icp_eq {Q T : ByteArray} {q : List UInt8} {b : Bool} (hQ : Q.data.toList = q) (hT : (⟨(Lib.trimPrefix q [40]).toArray⟩ : ByteArray) = T) (hb : Lib.hasPrefix q [40] = b) (w : World) :
    Calls Tryz.prog 60 #[.string Q, .string ⟨#[40]⟩] w fun e w' => e = .returned (.tuple #[.string T, .bool b]) ∧ w' = w := by
  subst hQ; subst hT; subst hb; exact Tryz.strings_CutPrefix Q ⟨#[40]⟩ w
theorem ics_eq {Q T : ByteArray} {q : List UInt8} (hs : Q.size ≤ 1048577) (hQ : Q.data.toList = q) (hT : (⟨(Lib.trimSuffix q [41]).toArray⟩ : ByteArray) = T) (w : World) :
    Calls Tryz.prog 61 #[.string Q, .string ⟨#[41]⟩] w fun e w' => (∃ b, e = .returned (.tuple #[.string T, .bool b])) ∧ w' = w := by
  subst hQ; subst hT
  refine (Tryz.strings_CutSuffix Q ⟨#[41]⟩ w (by omega)).mono ?_
  rintro e w' ⟨rfl, rfl⟩
  exact ⟨⟨_, rfl⟩, rfl⟩
theorem icut_eq {Q A B : ByteArray} {q x y : List UInt8} {f : Bool} {m : Int} (hs : Q.size ≤ 1048577) (hQ : Q.data.toList = q) (hc : Lib.cut q [43] = (x, y, f)) (hA : (⟨x.toArray⟩ : ByteArray) = A) (hB : (⟨y.toArray⟩ : ByteArray) = B) (w : World) (hm : w.cell? ⟨0, 0, none⟩ = some (.int .i64 m)) :
    Calls Tryz.prog 62 #[.string Q, .string ⟨#[43]⟩] w fun e w' => e = .returned (.tuple #[.string A, .string B, .bool f]) ∧ Bl w w' := by
  subst hQ; subst hA; subst hB
  have H := Tryz.strings_Cut Q ⟨#[43]⟩ m w (by omega) hm
  rw [show Lib.cut Q.data.toList (⟨#[43]⟩ : ByteArray).data.toList = (x, y, f) from hc] at H
  refine H.mono ?_
  rintro e w' ⟨rfl, n, rfl⟩
  exact ⟨rfl, Drawn.below ⟨n, rfl⟩ _⟩
theorem ird_eq {A : ByteArray} {x : List UInt8} {n : Int} {b : Bool} (hs : A.size ≤ 1048577) (hA : A.data.toList = x) (hn : (rdec x).getD 0 = n) (hb : (rdec x).isSome = b) (w : World) (hE : Env w) :
    Calls Tryz.prog 63 #[.string A] w fun e w' => e = .returned (.tuple #[.int .i64 n, .bool b]) ∧ Bl w w' := by
  subst hA; subst hn; subst hb
  exact irdec_any A w (by omega) hE
theorem start2 (w : World) (W : World) (hW : W = ((w.alloc (.cells #[.slice none 0 0, .slice none 0 0, .slice none 0 0] 26)).alloc (.cells #[.slice none 0 0, .slice none 0 0, .slice none 0 0] 26))) :
    Bx W (w.heap.size + 1) #[.slice none 0 0, .slice none 0 0, .slice none 0 0] ∧ Bx W w.heap.size #[.slice none 0 0, .slice none 0 0, .slice none 0 0] ∧ Bl w W ∧ W.heap.size = w.heap.size + 2 := by
  subst hW
  have x0 := Bx.new (b := w.heap.size) w #[.slice none 0 0, .slice none 0 0, .slice none 0 0] 26 rfl
  exact ⟨Bx.new _ _ _ (by simp), x0.alloc _, bl_alloc (bl_alloc (bl_refl _) _) _, by simp⟩
theorem sizeD {A : ByteArray} {x : List UInt8} (h : A.data.toList = x) : A.size = x.length := by rw [Lib.size_eq A, h]

set_option maxRecDepth 100000 in
set_option maxHeartbeats 25600000 in
theorem impl_ReadSource (s : ByteArray) (w : World) (hs : s.size ≤ 1048576) (hE : Env w) :
    Calls Tryz.prog 17 #[.string s] w (RsP s.data.toList w) := by
  obtain ⟨l, hl⟩ : ∃ l, s.data.toList = l := ⟨_, rfl⟩
  have HE := Lib.hid hE
  clear hE
  have hSW := split_words s
  have hln : l.length ≤ 1048576 := by rw [← hl, ← Lib.size_eq s]; exact hs
  have HL := Lib.hid hl
  rw [hl] at hSW
  clear hl
  rw [HL.out]
  obtain ⟨ws, hws⟩ : ∃ ws, spl 32 l = ws := ⟨_, rfl⟩
  have hn1 : ws.length ≤ 1048577 := by rw [← hws]; have := spl_numB 32 l; omega
  have HQ := Lib.hid (show ∀ q ∈ ws, q.length ≤ 1048576 by
    intro q hq; rw [← hws] at hq; have := spl_lenB (c := 32) _ l (Nat.le_refl _) q hq; omega)
  have HWS := Lib.hid hws
  rw [hws] at hSW
  have HSW := Lib.hid hSW
  clear hws hSW
  obtain ⟨m, hm⟩ := HE.out.mx
  have HM := Lib.hid hm
  clear hm
  go_enter Tryz.func17, Tryz.ntmps17
  go_wp2_with fail
  obtain ⟨x2, r2, b2, z2⟩ := start2 w _ rfl
  generalize hW : ((w.alloc (.cells #[.slice none 0 0, .slice none 0 0, .slice none 0 0] 26)).alloc (.cells #[.slice none 0 0, .slice none 0 0, .slice none 0 0] 26)) = W2 at *
  clear hW
  have HSP := Tryz.strings_Split s ⟨#[32]⟩ m W2 (by omega) ((b2.cell (p := ⟨_, 0, none⟩) (cell_lt HM.out)).trans HM.out) (by decide)
  rw [HSW.out.1, HSW.out.2] at HSP
  refine HSP.mono ?_
  clear HSP
  rintro e w1 ⟨rfl, hw1⟩
  have ho := owS_new W2 (B := w.heap.size + 1) (by omega) ws hn1 9
  rw [← hw1] at ho
  have B1 : Bl W2 w1 := by rw [hw1]; exact bl_alloc (bl_refl _) _
  clear hw1
  rw [z2] at ho ⊢
  have D0 : Bg w w1 (w.heap.size + 1) (w.heap.size + 2) ws.length ws (.slice none 0 0) (.slice none 0 0) (.slice none 0 0) ⟨[], [], []⟩ :=
    ⟨x2.below B1, ownS_nilR _ _, fun k hk => by rcases hk with q | q | q <;> simp [Value.ownBlock] at q, Nat.le_refl _, r2.below B1, bl_call b2 B1, ho, by omega, fun k hk => by rcases hk with q | q | q <;> simp [Value.ownBlock] at q⟩
  clear x2 r2 ho
  have BE := bl_call b2 B1
  have D00 := Lib.hid D0
  clear D0 b2 B1
  generalize w.heap.size + 2 = gw at *
  have hb : w.heap.size + 1 = w.heap.size + 1 := rfl
  obtain ⟨cw, hcw⟩ : ∃ c, c = ws.length := ⟨_, rfl⟩
  go_wp2_with fail
  go_loopw [5, 7, 8, 9, 10, 11, 12, 13, 14, 15, 16, 20] (fun s5 _ _ _ _ _ _ _ _ _ _ s20 wr => ∃ (h p g : Value) (st : PS) (i : Nat), s5 = .bool st.ins ∧ s20 = .int .i64 i ∧ i ≤ ws.length ∧ Hid (Bg w wr (w.heap.size + 1) gw ws.length ws h p g ⟨st.H, st.P, st.G⟩) ∧ Hid (foldI ⟨false, [], [], []⟩ ws = foldI st (ws.drop i) ∧ st.H.length ≤ i ∧ st.P.length ≤ i ∧ st.G.length ≤ i)) (fun _ _ _ _ _ _ _ _ _ _ _ s20 _ => ws.length - (intOf s20).toNat)
  case atStart => exact ⟨_, _, _, ⟨false, [], [], []⟩, 0, rfl, rfl, Nat.zero_le _, D00, Lib.hid ⟨by simp, Nat.le_refl _, Nat.le_refl _, Nat.le_refl _⟩⟩
  case round =>
    rcases hrel with ⟨h, p, g, ⟨ins, SH, SP, SG⟩, i, rfl, rfl, hi, HD, HF⟩
    simp only at HD HF ⊢
    clear D00 z2 hb hcw BE
    rcases Nat.lt_or_ge i ws.length with hlt | hge
    · obtain ⟨q, hq⟩ : ∃ q, ws[i]? = some q := ⟨_, List.getElem?_eq_getElem hlt⟩
      have hql := HQ.out q (List.mem_of_getElem? hq)
      have HQI := Lib.hid hq
      obtain ⟨Q, hQ⟩ : ∃ Q : ByteArray, (⟨q.toArray⟩ : ByteArray) = Q := ⟨_, rfl⟩
      have HQD := Lib.hid (show Q.data.toList = q by rw [← hQ])
      have hcwq : wr.cell? ⟨gw, i, none⟩ = some (.string Q) := by rw [← hQ]; exact HD.out.W.cell (cS_get hq)
      clear hq hQ
      obtain ⟨hp, hhp⟩ : ∃ b, Lib.hasPrefix q [40] = b := ⟨_, rfl⟩
      obtain ⟨T1, hT1⟩ : ∃ T : ByteArray, (⟨(Lib.trimPrefix q [40]).toArray⟩ : ByteArray) = T := ⟨_, rfl⟩
      have hT1D : T1.data.toList = Lib.trimPrefix q [40] := by rw [← hT1]
      obtain ⟨T2, hT2⟩ : ∃ T : ByteArray, (⟨(Lib.trimSuffix (Lib.trimPrefix q [40]) [41]).toArray⟩ : ByteArray) = T := ⟨_, rfl⟩
      have hT2D : T2.data.toList = Lib.trimSuffix (Lib.trimPrefix q [40]) [41] := by rw [← hT2]
      obtain ⟨x, y, f, hc⟩ : ∃ x y f, Lib.cut (Lib.trimSuffix (Lib.trimPrefix q [40]) [41]) [43] = (x, y, f) := ⟨_, _, _, rfl⟩
      obtain ⟨A, hA⟩ : ∃ T : ByteArray, (⟨x.toArray⟩ : ByteArray) = T := ⟨_, rfl⟩
      have hAD : A.data.toList = x := by rw [← hA]
      obtain ⟨Y, hY⟩ : ∃ T : ByteArray, (⟨y.toArray⟩ : ByteArray) = T := ⟨_, rfl⟩
      have hYD : Y.data.toList = y := by rw [← hY]
      have hW := word_I q hc
      obtain ⟨n1, hn1'⟩ : ∃ z, (rdec x).getD 0 = z := ⟨_, rfl⟩
      obtain ⟨b1, hb1⟩ : ∃ z, (rdec x).isSome = z := ⟨_, rfl⟩
      obtain ⟨n2, hn2⟩ : ∃ z, (rdec y).getD 0 = z := ⟨_, rfl⟩
      obtain ⟨b2, hb2⟩ : ∃ z, (rdec y).isSome = z := ⟨_, rfl⟩
      rw [hn1', hb1, hn2, hb2] at hW
      have HW := Lib.hid hW
      clear hW
      have HHP := Lib.hid hhp
      have HC1 := Lib.hid (fun w => icp_eq HQD.out hT1 hhp w)
      have HC2 := Lib.hid (fun w => ics_eq (by rw [sizeD hT1D]; have := tp_le q 40; omega) hT1D hT2 w)
      have HC3 := Lib.hid (fun w hm => icut_eq (m := m) (by rw [sizeD hT2D]; have := tp_le q 40; have := ts_le (Lib.trimPrefix q [40]) 41; omega) hT2D hc hA hY w hm)
      have hcl := cut_leI (Lib.trimSuffix (Lib.trimPrefix q [40]) [41]) 43
      rw [hc] at hcl
      simp only at hcl
      have HC4 := Lib.hid (fun w hE => ird_eq (by rw [sizeD hAD]; have := tp_le q 40; have := ts_le (Lib.trimPrefix q [40]) 41; omega) hAD hn1' hb1 w hE)
      have HC5 := Lib.hid (fun w hE => ird_eq (by rw [sizeD hYD]; have := tp_le q 40; have := ts_le (Lib.trimPrefix q [40]) 41; omega) hYD hn2 hb2 w hE)
      clear hhp hT1 hT1D hT2 hT2D hc hA hAD hY hYD hn1' hb1 hn2 hb2 hcl hql
      have HRN := Lib.hid (And.intro HW.out.r1 HW.out.r2)
      have BW := Lib.hid HD.out.B
      obtain ⟨cB, fB, zB⟩ := HD.out.X.out
      obtain ⟨cR, fR, zR⟩ := HD.out.R.out
      cases ins
      · cases hp
        · skip
          go_wp2_with fail
          refine (HC1.out _).mono ?_
          rintro e w9 ⟨rfl, rfl⟩
          go_wp2_with fail
          refine (HC2.out _).mono ?_
          rintro e w9 ⟨⟨bs, rfl⟩, rfl⟩
          go_wp2_with fail
          refine (HC3.out _ ((HD.out.B.cell (p := ⟨_, 0, none⟩) (cell_lt HM.out)).trans HM.out)).mono ?_
          rintro e w3 ⟨rfl, B3⟩
          go_wp2_with fail
          refine (HC4.out _ (HE.out.below (bl_call HD.out.B B3))).mono ?_
          rintro e w4 ⟨rfl, B4⟩
          have B34 := bl_call B3 B4
          clear B3 B4
          go_wp2_with fail
          refine (HC5.out _ (HE.out.below (bl_call HD.out.B B34))).mono ?_
          rintro e w5 ⟨rfl, B5⟩
          have BB := bl_call B34 B5
          clear B34 B5
          have HD3 := Lib.hid (HD.out.bl BB)
          clear cB fB zB cR fR zR hcwq
          obtain ⟨cB, fB, zB⟩ := HD3.out.X.out
          obtain ⟨cR, fR, zR⟩ := HD3.out.R.out
          cases hb1 : b1 with
          | false =>
            have HB := Lib.hid (ri_fold (l := l) (by rw [HWS.out]; exact foldI_bad HF.out.1 HQI.out (HW.out.no1 hb1 _)))
            clear hb1
            go_wp2
            refine bodyPost_ret (v := .tuple #[.agg #[.slice none 0 0, .slice none 0 0, .slice none 0 0], .bool false]) (by simp only [results, Tryz.results17]; go_simp) rfl ?_
            refine rs_bad HB.out ?_
            repeat first | (with_reducible exact HD3.out.B) | (with_reducible refine bl_set ?_ (by first | exact Nat.le_refl _ | (simp; done) | (simp; omega)) _)
          | true =>
            by_cases hfb : f = b2
            · have HST := Lib.hid (HW.out.out hb1 hfb ⟨false, SH, SP, SG⟩ (by rw [HHP.out]; rfl))
              have hff : (f == b2) = true := by rw [hfb]; exact beq_self_eq_true _
              have hfn : (f != b2) = false := by rw [hfb]; simp
              clear hfb hb1
              have HLN := Lib.hid (show SH.length ≤ 1048577 by have := HF.out.2; (try simp only at this); omega)
              go_wp2_with (at_builtin; refine wpList_append_one rfl _ _ rfl (w.heap.size + 1) _ SH (by rfl) HD3.out.O.1 _ HRN.out.1 (by rfl) (by have := HLN.out; omega) (by have := HD3.out.bb; have := HD3.out.X.out.2.2; omega) ?_; intro v' wn ho hg hor; obtain ⟨P2, hP2⟩ : ∃ z, z = SH ++ [n1] := ⟨_, rfl⟩; rw [← hP2] at ho; have HP2 := Lib.hid hP2; have hap := HD3.out.app0 ho hg hor (Nat.le_succ _); clear hP2 hg hor; obtain ⟨a1, c1, rfl, _⟩ := ho.form; obtain ⟨xN, D1⟩ := hap; have HD4 := Lib.hid D1; clear D1 ho cB fB zB cR fR zR; obtain ⟨cB, fB, zB⟩ := xN.out)
              go_wp2
              go_roundw
              case rel => exact ⟨_, _, _, ⟨false, P2, SP, SG⟩, i + 1, rfl, by simp, by omega, HD4, Lib.hid ⟨foldI_next HF.out.1 HQI.out (by rw [HST.out, HP2.out]), by have := HF.out.2.1; (try simp only at this ⊢); rw [HP2.out]; simp; omega, by have := HF.out.2.2.1; (try simp only at this ⊢); omega, by have := HF.out.2.2.2; (try simp only at this ⊢); omega⟩⟩
              case measure => simp only [intOf, Int.toNat_natCast]; omega
            · have HB := Lib.hid (ri_fold (l := l) (by rw [HWS.out]; exact foldI_bad HF.out.1 HQI.out (HW.out.no2 hb1 hfb _)))
              have hff : (f == b2) = false := beq_eq_false_iff_ne.2 hfb
              have hfn : (f != b2) = true := by simpa using hfb
              clear hfb hb1
              go_wp2
              refine bodyPost_ret (v := .tuple #[.agg #[.slice none 0 0, .slice none 0 0, .slice none 0 0], .bool false]) (by simp only [results, Tryz.results17]; go_simp) rfl ?_
              refine rs_bad HB.out ?_
              repeat first | (with_reducible exact HD3.out.B) | (with_reducible refine bl_set ?_ (by first | exact Nat.le_refl _ | (simp; done) | (simp; omega)) _)
        · skip
          go_wp2_with fail
          refine (HC1.out _).mono ?_
          rintro e w9 ⟨rfl, rfl⟩
          go_wp2_with fail
          refine (HC2.out _).mono ?_
          rintro e w9 ⟨⟨bs, rfl⟩, rfl⟩
          go_wp2_with fail
          refine (HC3.out _ ((HD.out.B.cell (p := ⟨_, 0, none⟩) (cell_lt HM.out)).trans HM.out)).mono ?_
          rintro e w3 ⟨rfl, B3⟩
          go_wp2_with fail
          refine (HC4.out _ (HE.out.below (bl_call HD.out.B B3))).mono ?_
          rintro e w4 ⟨rfl, B4⟩
          have B34 := bl_call B3 B4
          clear B3 B4
          go_wp2_with fail
          refine (HC5.out _ (HE.out.below (bl_call HD.out.B B34))).mono ?_
          rintro e w5 ⟨rfl, B5⟩
          have BB := bl_call B34 B5
          clear B34 B5
          have HD3 := Lib.hid (HD.out.bl BB)
          clear cB fB zB cR fR zR hcwq
          obtain ⟨cB, fB, zB⟩ := HD3.out.X.out
          obtain ⟨cR, fR, zR⟩ := HD3.out.R.out
          cases hb1 : b1 with
          | false =>
            have HB := Lib.hid (ri_fold (l := l) (by rw [HWS.out]; exact foldI_bad HF.out.1 HQI.out (HW.out.no1 hb1 _)))
            clear hb1
            go_wp2
            refine bodyPost_ret (v := .tuple #[.agg #[.slice none 0 0, .slice none 0 0, .slice none 0 0], .bool false]) (by simp only [results, Tryz.results17]; go_simp) rfl ?_
            refine rs_bad HB.out ?_
            repeat first | (with_reducible exact HD3.out.B) | (with_reducible refine bl_set ?_ (by first | exact Nat.le_refl _ | (simp; done) | (simp; omega)) _)
          | true =>
            by_cases hfb : f = b2
            · have HST := Lib.hid (HW.out.inn hb1 hfb ⟨false, SH, SP, SG⟩ (by rw [HHP.out]; rfl))
              have hff : (f == b2) = true := by rw [hfb]; exact beq_self_eq_true _
              have hfn : (f != b2) = false := by rw [hfb]; simp
              clear hfb hb1
              have HLN := Lib.hid (show SP.length ≤ 1048577 ∧ SG.length ≤ 1048577 by have := HF.out.2; (try simp only at this); omega)
              go_wp2_with (at_builtin; first | (refine wpList_append_one rfl _ _ rfl (w.heap.size + 1) _ SP (by rfl) HD3.out.O.2.1 _ HRN.out.1 (by rfl) (by have := HLN.out; omega) (by have := HD3.out.bb; have := HD3.out.X.out.2.2; omega) ?_; intro v' wn ho hg hor; obtain ⟨P2, hP2⟩ : ∃ z, z = SP ++ [n1] := ⟨_, rfl⟩; rw [← hP2] at ho; have HP2 := Lib.hid hP2; have hap := HD3.out.app1 ho hg hor (Nat.le_succ _); clear hP2 hg hor; obtain ⟨a1, c1, rfl, _⟩ := ho.form; obtain ⟨xN, D1⟩ := hap; have HD4 := Lib.hid D1; clear D1 ho cB fB zB cR fR zR; obtain ⟨cB, fB, zB⟩ := xN.out; obtain ⟨cG, fG, zG⟩ := HD4.out.X.out) | (refine wpList_append_one rfl _ _ rfl (w.heap.size + 1) _ SG (by rfl) HD4.out.O.2.2.1 _ HRN.out.2 (by first | rfl | (rw [World.heap_size_setCell]; rfl) | (simp; rfl) | (simp; done)) (by have := HLN.out; omega) (by have := HD4.out.bb; have := HD4.out.X.out.2.2; omega) ?_; intro v' wm ho hg hor; obtain ⟨G2, hG2⟩ : ∃ z, z = SG ++ [n2] := ⟨_, rfl⟩; rw [← hG2] at ho; have HG2 := Lib.hid hG2; have hap := HD4.out.app2 ho hg hor (Nat.le_succ _); clear hG2 hg hor; obtain ⟨a2, c2, rfl, _⟩ := ho.form; obtain ⟨xM, D2⟩ := hap; have HD5 := Lib.hid D2; clear D2 ho cB fB zB cG fG zG; obtain ⟨cB, fB, zB⟩ := xM.out))
              go_wp2
              go_roundw
              case rel => exact ⟨_, _, _, ⟨true, SH, P2, G2⟩, i + 1, rfl, by simp, by omega, HD5, Lib.hid ⟨foldI_next HF.out.1 HQI.out (by rw [HST.out, HP2.out, HG2.out]), by have := HF.out.2.1; (try simp only at this ⊢); omega, by have := HF.out.2.2.1; (try simp only at this ⊢); rw [HP2.out]; simp; omega, by have := HF.out.2.2.2; (try simp only at this ⊢); rw [HG2.out]; simp; omega⟩⟩
              case measure => simp only [intOf, Int.toNat_natCast]; omega
            · have HB := Lib.hid (ri_fold (l := l) (by rw [HWS.out]; exact foldI_bad HF.out.1 HQI.out (HW.out.no2 hb1 hfb _)))
              have hff : (f == b2) = false := beq_eq_false_iff_ne.2 hfb
              have hfn : (f != b2) = true := by simpa using hfb
              clear hfb hb1
              go_wp2
              refine bodyPost_ret (v := .tuple #[.agg #[.slice none 0 0, .slice none 0 0, .slice none 0 0], .bool false]) (by simp only [results, Tryz.results17]; go_simp) rfl ?_
              refine rs_bad HB.out ?_
              repeat first | (with_reducible exact HD3.out.B) | (with_reducible refine bl_set ?_ (by first | exact Nat.le_refl _ | (simp; done) | (simp; omega)) _)
      · skip
        go_wp2_with fail
        refine (HC1.out _).mono ?_
        rintro e w9 ⟨rfl, rfl⟩
        go_wp2_with fail
        refine (HC2.out _).mono ?_
        rintro e w9 ⟨⟨bs, rfl⟩, rfl⟩
        go_wp2_with fail
        refine (HC3.out _ ((HD.out.B.cell (p := ⟨_, 0, none⟩) (cell_lt HM.out)).trans HM.out)).mono ?_
        rintro e w3 ⟨rfl, B3⟩
        go_wp2_with fail
        refine (HC4.out _ (HE.out.below (bl_call HD.out.B B3))).mono ?_
        rintro e w4 ⟨rfl, B4⟩
        have B34 := bl_call B3 B4
        clear B3 B4
        go_wp2_with fail
        refine (HC5.out _ (HE.out.below (bl_call HD.out.B B34))).mono ?_
        rintro e w5 ⟨rfl, B5⟩
        have BB := bl_call B34 B5
        clear B34 B5
        have HD3 := Lib.hid (HD.out.bl BB)
        clear cB fB zB cR fR zR hcwq
        obtain ⟨cB, fB, zB⟩ := HD3.out.X.out
        obtain ⟨cR, fR, zR⟩ := HD3.out.R.out
        cases hb1 : b1 with
        | false =>
          have HB := Lib.hid (ri_fold (l := l) (by rw [HWS.out]; exact foldI_bad HF.out.1 HQI.out (HW.out.no1 hb1 _)))
          clear hb1
          go_wp2
          refine bodyPost_ret (v := .tuple #[.agg #[.slice none 0 0, .slice none 0 0, .slice none 0 0], .bool false]) (by simp only [results, Tryz.results17]; go_simp) rfl ?_
          refine rs_bad HB.out ?_
          repeat first | (with_reducible exact HD3.out.B) | (with_reducible refine bl_set ?_ (by first | exact Nat.le_refl _ | (simp; done) | (simp; omega)) _)
        | true =>
          by_cases hfb : f = b2
          · have HST := Lib.hid (HW.out.inn hb1 hfb ⟨true, SH, SP, SG⟩ (by rw [HHP.out]; rfl))
            have hff : (f == b2) = true := by rw [hfb]; exact beq_self_eq_true _
            have hfn : (f != b2) = false := by rw [hfb]; simp
            clear hfb hb1
            have HLN := Lib.hid (show SP.length ≤ 1048577 ∧ SG.length ≤ 1048577 by have := HF.out.2; (try simp only at this); omega)
            go_wp2_with (at_builtin; first | (refine wpList_append_one rfl _ _ rfl (w.heap.size + 1) _ SP (by rfl) HD3.out.O.2.1 _ HRN.out.1 (by rfl) (by have := HLN.out; omega) (by have := HD3.out.bb; have := HD3.out.X.out.2.2; omega) ?_; intro v' wn ho hg hor; obtain ⟨P2, hP2⟩ : ∃ z, z = SP ++ [n1] := ⟨_, rfl⟩; rw [← hP2] at ho; have HP2 := Lib.hid hP2; have hap := HD3.out.app1 ho hg hor (Nat.le_succ _); clear hP2 hg hor; obtain ⟨a1, c1, rfl, _⟩ := ho.form; obtain ⟨xN, D1⟩ := hap; have HD4 := Lib.hid D1; clear D1 ho cB fB zB cR fR zR; obtain ⟨cB, fB, zB⟩ := xN.out; obtain ⟨cG, fG, zG⟩ := HD4.out.X.out) | (refine wpList_append_one rfl _ _ rfl (w.heap.size + 1) _ SG (by rfl) HD4.out.O.2.2.1 _ HRN.out.2 (by first | rfl | (rw [World.heap_size_setCell]; rfl) | (simp; rfl) | (simp; done)) (by have := HLN.out; omega) (by have := HD4.out.bb; have := HD4.out.X.out.2.2; omega) ?_; intro v' wm ho hg hor; obtain ⟨G2, hG2⟩ : ∃ z, z = SG ++ [n2] := ⟨_, rfl⟩; rw [← hG2] at ho; have HG2 := Lib.hid hG2; have hap := HD4.out.app2 ho hg hor (Nat.le_succ _); clear hG2 hg hor; obtain ⟨a2, c2, rfl, _⟩ := ho.form; obtain ⟨xM, D2⟩ := hap; have HD5 := Lib.hid D2; clear D2 ho cB fB zB cG fG zG; obtain ⟨cB, fB, zB⟩ := xM.out))
            go_wp2
            go_roundw
            case rel => exact ⟨_, _, _, ⟨true, SH, P2, G2⟩, i + 1, rfl, by simp, by omega, HD5, Lib.hid ⟨foldI_next HF.out.1 HQI.out (by rw [HST.out, HP2.out, HG2.out]), by have := HF.out.2.1; (try simp only at this ⊢); omega, by have := HF.out.2.2.1; (try simp only at this ⊢); rw [HP2.out]; simp; omega, by have := HF.out.2.2.2; (try simp only at this ⊢); rw [HG2.out]; simp; omega⟩⟩
            case measure => simp only [intOf, Int.toNat_natCast]; omega
          · have HB := Lib.hid (ri_fold (l := l) (by rw [HWS.out]; exact foldI_bad HF.out.1 HQI.out (HW.out.no2 hb1 hfb _)))
            have hff : (f == b2) = false := beq_eq_false_iff_ne.2 hfb
            have hfn : (f != b2) = true := by simpa using hfb
            clear hfb hb1
            go_wp2
            refine bodyPost_ret (v := .tuple #[.agg #[.slice none 0 0, .slice none 0 0, .slice none 0 0], .bool false]) (by simp only [results, Tryz.results17]; go_simp) rfl ?_
            refine rs_bad HB.out ?_
            repeat first | (with_reducible exact HD3.out.B) | (with_reducible refine bl_set ?_ (by first | exact Nat.le_refl _ | (simp; done) | (simp; omega)) _)
    · obtain rfl : i = ws.length := by omega
      have HFE := Lib.hid (show foldI ⟨false, [], [], []⟩ (spl 32 l) = some ⟨ins, SH, SP, SG⟩ by rw [HWS.out, HF.out.1, List.drop_length]; rfl)
      have HSL := Lib.hid HD.out.O.sl
      obtain ⟨ah, ch, hh, _⟩ := HD.out.O.1.form
      obtain ⟨ap, cp, hpp, _⟩ := HD.out.O.2.1.form
      obtain ⟨ag, cg, hg, _⟩ := HD.out.O.2.2.1.form
      subst hh
      subst hpp
      subst hg
      obtain ⟨cB, fB, zB⟩ := HD.out.X.out
      obtain ⟨cR, fR, zR⟩ := HD.out.R.out
      go_wp2_with fail
      refine (impl_SourceText _ _ _ ⟨SH, SP, SG⟩ _ HSL.out (HE.out.below HD.out.B).tab).mono ?_
      rintro e w5 ⟨rfl, B5⟩
      have HD3 := Lib.hid (HD.out.bl B5)
      clear cB fB zB cR fR zR
      obtain ⟨cB, fB, zB⟩ := HD3.out.X.out
      obtain ⟨cR, fR, zR⟩ := HD3.out.R.out
      by_cases hq : stxt SH SP SG = l
      · have HG := Lib.hid (ri_end HFE.out hq)
        have hcmp : (stxt SH SP SG == s.toList) = true := by rw [ByteArray.toList_eq, HL.out]; exact beq_iff_eq.2 hq
        clear hq
        go_wp2
        refine bodyPost_ret (v := .tuple #[.agg #[.slice ah SH.length ch, .slice ap SP.length cp, .slice ag SG.length cg], .bool true]) (by simp only [results, Tryz.results17]; go_simp) rfl ?_
        exact rs_good HG.out HD3.out (only_set3 _ _ _ _ _)
      · have HB := Lib.hid (ri_end_no HFE.out hq)
        have hcmp : (stxt SH SP SG == s.toList) = false := by rw [ByteArray.toList_eq, HL.out]; exact beq_eq_false_iff_ne.2 hq
        clear hq
        go_wp2
        refine bodyPost_ret (v := .tuple #[.agg #[.slice none 0 0, .slice none 0 0, .slice none 0 0], .bool false]) (by simp only [results, Tryz.results17]; go_simp) rfl ?_
        refine rs_bad HB.out ?_
        repeat first | (with_reducible exact HD3.out.B) | (with_reducible refine bl_set ?_ (by first | exact Nat.le_refl _ | (simp; done) | (simp; omega)) _)

end Go.Proofs.YtndblondleclpaaGreatDoor

