/- Some of the texts of this claim, joined in one file: MpU, SurdJ. -/
import Derived.Test.YtgkelemfbmmgnaaGreatMSv11
import Derived.Maps.OwnSet
import Derived.DeepKeys4
import Derived.Test.YtgkelemfbmmgnaaGreatMSv32
import Derived.Test.YtgkelemfbmmgnaaGreatMSv12
/- Surds: a map from surds to places that the call makes. Each theorem names its conditions. -/
namespace Go.Proofs.YtgkelemfbmmgnaaGreat
open Go.RowKit Go.Maps
set_option linter.unusedVariables false
set_option linter.unusedSimpArgs false
set_option maxRecDepth 100000

abbrev agU (p d q : Int) : Value := .agg #[.int .i64 p, .int .i64 d, .int .i64 q]
theorem laidU : laidOutB Tryz.prog = true := by kernel_rfl
theorem rowU : (33 : TypeId) < Tryz.prog.types.size := of_decide_eq_true (by kernel_rfl)
theorem wideU : (match Tryz.prog.underlying 33 with | some (.array _ _) | some (.struct _) => true | _ => false) = true := by kernel_rfl
theorem lawU : Keyed Tryz.prog 33 := Keyed.of_law (deep_law_laid laidU (m := 2) (by omega) rowU (by kernel_rfl) wideU)
theorem keytU : Tryz.prog.keyType 33 = true := by kernel_rfl
theorem zeroU (w : World) : (zeroValue 3).run Tryz.prog w = .ok (.int .i64 0) w := by kernel_rfl
theorem szU : ∃ m, Tryz.prog.types.size = m + 2 := ⟨Tryz.prog.types.size - 2, by have h : 2 ≤ Tryz.prog.types.size := of_decide_eq_true (by kernel_rfl); omega⟩
theorem keyU {p d q : Int} (hp : R64 p) (hd : R64 d) (hq : R64 q) : ∃ kl, keyOf Tryz.prog 33 (agU p d q) = some kl := by
  have hkt := keytU
  obtain ⟨m, hm⟩ := szU
  have wp := WalkArith.wf_i64 hp
  have wd := WalkArith.wf_i64 hd
  have wq := WalkArith.wf_i64 hq
  have c1 : Tryz.prog.cellsOf 2 = 1 := by kernel_rfl
  have c3 : Tryz.prog.cellsOf 33 = 3 := by kernel_rfl
  have ui := Tryz.underlying2
  unfold keyOf
  simp only [Tryz.underlying33]
  rw [if_pos (by simp [hkt, agU, Value.formed, Tryz.underlying33, c3]), hm]
  unfold Program.keyLits
  simp only [Tryz.underlying33, Value.cells, agU]
  rw [if_pos (by rw [c3]; refine ⟨rfl, by simp⟩)]
  simp [c1, Program.keyLits, ui, wp, wd, wq]

/-- A map of the call's own from the surds of a list to their places. -/
def MpU (w : World) (b : Nat) (L : List Sud) : Prop :=
  ∃ D : DataW Unit, w.ownsMap Tryz.prog 33 (plainElem Tryz.prog 3) b L.length D ∧ IsMap D ∧
    ∀ (p d q : Int) (kl : Lit), keyOf Tryz.prog 33 (agU p d q) = some kl → has D kl = (fiU (p, d, q) L 0).isSome ∧ ∀ k, fiU (p, d, q) L 0 = some k → D.atKey kl (.lit (.int .i64 0)) = .lit (.int .i64 (k : Nat))
theorem MpU.made (w : World) : MpU (w.alloc (.map #[] 0)) w.heap.size [] :=
  ⟨.map [], World.ownsMap_made _ _ _ _, isMap_empty, fun p d q kl h => ⟨rfl, fun k e => by cases e⟩⟩
theorem MpU.lt {w : World} {b : Nat} {L : List Sud} (h : MpU w b L) : b < w.heap.size := by
  obtain ⟨D, h, _⟩ := h
  exact h.lt
theorem MpU.kept {w w' : World} {b : Nat} {L : List Sud} {row : Option Nat} (h : MpU w b L) (hg : w.grownBy w' row) (hne : some b ≠ row) : MpU w' b L := by
  obtain ⟨D, h, r⟩ := h
  exact ⟨D, h.kept hg hne, r⟩
theorem MpU.below {w w' : World} {b : Nat} {L : List Sud} (h : MpU w b L) (hb : Bl w w') : MpU w' b L := h.kept (grown_of_below hb none) (by simp)
theorem MpU.drew {w : World} {b : Nat} {L : List Sud} (h : MpU w b L) : MpU w.drew b L := h
theorem MpU.far {w : World} {b : Nat} {L : List Sud} (h : MpU w b L) {p : Addr} (hp : b ≠ p.block) (u : Value) : MpU (w.setCell p u) b L :=
  h.kept (row := some p.block) ⟨rfl, rfl, rfl, by simp, fun k hk hne => Below.heap_setCell w p u k (fun e => hne (by rw [e]))⟩ (by simpa using hp)
theorem fiU_app {x s : Sud} (L : List Sud) : ∀ k, fiU x (L ++ [s]) k = match fiU x L k with | some j => some j | none => if s = x then some (k + L.length) else none := by
  induction L with
  | nil => intro k; simp [fiU]
  | cons y L ih =>
    intro k
    simp only [List.cons_append, fiU]
    by_cases h : y = x
    · simp [h]
    · simp only [h, if_false]
      rw [ih]
      simp only [List.length_cons, show k + 1 + L.length = k + (L.length + 1) by omega]
/-- The look-up. -/
theorem MpU.look {w : World} {b : Nat} {L : List Sud} {p d q : Int} (h : MpU w b L) (hp : R64 p) (hd : R64 d) (hq : R64 q) :
    ∃ c : Int, (∀ {em : Bool}, em = true → (Instr.lookup 132 (.map (some b)) (agU p d q) em).run Tryz.prog w = .ok (.tuple #[.int .i64 c, .bool (fiU (p, d, q) L 0).isSome]) w) ∧ ∀ k, fiU (p, d, q) L 0 = some k → c = (k : Nat) := by
  obtain ⟨D, ho, hm, hr⟩ := h
  obtain ⟨kl, hk⟩ := keyU hp hd hq
  obtain ⟨v, ps, hrun, hv⟩ := ho.look_ok lawU Tryz.underlying132 (zeroU w) (plainElem_int Tryz.underlying3 (by decide)) hk
  obtain ⟨c, rfl, hc, hwc⟩ := plainElem_int_inv Tryz.underlying3 hv
  simp only [Prod.mk.injEq] at hc
  obtain ⟨e1, e2⟩ := hr p d q kl hk
  refine ⟨c, fun he => by rw [he, hrun, e1], fun k hf => ?_⟩
  have := (e2 k hf).symm.trans hc.1
  injection this with this
  injection this with _ this
  exact this.symm
/-- The store at a key that is not there. -/
theorem MpU.store {w : World} {b : Nat} {L : List Sud} {p d q : Int} (h : MpU w b L) (hp : R64 p) (hd : R64 d) (hq : R64 q) (hl : L.length ≤ 400) (hn : fiU (p, d, q) L 0 = none) :
    ∃ w', (Instr.mapUpdate 132 (.map (some b)) (agU p d q) (.int .i64 L.length)).run Tryz.prog w = .ok () w' ∧ MpU w' b (L ++ [(p, d, q)]) ∧ w.grownBy w' (some b) := by
  obtain ⟨D, ho, hm, hr⟩ := h
  obtain ⟨kl, hk⟩ := keyU hp hd hq
  obtain ⟨w', hrun, ho', hg⟩ := ho.update lawU Tryz.underlying132 (by unfold maxLen; omega) hk (plainElem_int Tryz.underlying3 (WalkArith.wf_i64 (n := (L.length : Int)) (by omega)))
  refine ⟨w', hrun, ⟨_, by rw [List.length_append]; exact ho', hm.put _ _, fun p1 d1 q1 kl1 hk1 => ?_⟩, hg⟩
  by_cases he : (p1, d1, q1) = (p, d, q)
  · simp only [Prod.mk.injEq] at he
    obtain ⟨rfl, rfl, rfl⟩ := he
    obtain rfl : kl1 = kl := by rw [hk] at hk1; injection hk1 with e; exact e.symm
    have hf : fiU (p1, d1, q1) (L ++ [(p1, d1, q1)]) 0 = some L.length := by rw [fiU_app, hn]; simp
    refine ⟨by rw [has_put_same hm (lawU.key hk), hf]; rfl, fun k e => ?_⟩
    rw [hf] at e
    injection e with e
    rw [← e]
    exact atKey_put_same hm (lawU.key hk) _ _
  · have hkk : kl1 ≠ kl := by
      intro e
      subst e
      have := lawU.inj hk hk1
      simp only [agU, Value.agg.injEq] at this
      have := congrArg Array.toList this
      simp at this
      exact he (by simp [this.1, this.2.1, this.2.2])
    have hf : fiU (p1, d1, q1) (L ++ [(p, d, q)]) 0 = fiU (p1, d1, q1) L 0 := by
      rw [fiU_app]
      have e2 : ¬ (p, d, q) = (p1, d1, q1) := fun e => he e.symm
      cases fiU (p1, d1, q1) L 0 with
      | some j => rfl
      | none => simp only [if_neg e2]
    rw [hf, has_put_other hkk, atKey_put_other hkk]
    exact hr p1 d1 q1 kl1 hk1

end Go.Proofs.YtgkelemfbmmgnaaGreat

/- Surds: the program's walk along surds. Each theorem names its conditions. -/
namespace Go.Proofs.YtgkelemfbmmgnaaGreat
open Go.RowKit
set_option linter.unusedVariables false
set_option linter.unusedSimpArgs false

def flS (s : Sud) : Int := flU s.1 s.2.1 s.2.2
def okS3 (s : Sud) : Prop := okU s.1 s.2.1 s.2.2 = true
/-- append(s, x): one surd. -/
theorem wpList_append_su {w : World} {ops : Array Oper} {rest : List Oper} {o : Oper} {a : Act} {Q : Exit → Act → World → Prop} (hgd : o.guard = none) (s x : Operand)
    (ho : o.op = .call { callee := .builtin .append, args := #[s, x], argTypes := #[66, 66] })
    (B : Nat) (v : Value) (fs : List Sud) (hs : a.eval s = v) (hown : OwnU w B v fs) (p d q : Int)
    (hx : a.eval x = .slice (some ⟨w.heap.size, 0, none⟩) 1 1) (hl : fs.length < 1000000000) (hB : B ≤ w.heap.size)
    (h : ∀ v' w', OwnU w' B v' (fs ++ [(p, d, q)]) → w.grownBy w' v.ownBlock → (v'.ownBlock = v.ownBlock ∨ v'.ownBlock = some (w.heap.size + 1)) → wpList Tryz.prog ops Q rest (a.put o.dst v') w') :
    wpList Tryz.prog ops Q (o :: rest) a (w.alloc (.cells #[.int .i64 p, .int .i64 d, .int .i64 q] 33)) := by
  obtain ⟨i0, hi, hz0, hz1, hz2⟩ := info_parts info_su
  refine wpList_append_own_at _ hgd s x 66 ho B 33 i0 (.agg #[.int .i64 0, .int .i64 0, .int .i64 0]) 3 24 Tryz.underlying66 hi hz0 hz1 hz2 rfl (by decide) v fs.length (cellsU fs) hs (World.ownsRow.alloc hown _) ⟨w.heap.size, 0, none⟩ 1 1 (cellsU [(p, d, q)]) hx (by simp [cellsU]) ?_ (cellsU_one _) (by unfold maxLen; omega) (by omega) (by simp; omega) ?_
  · intro j u hu
    match j, hu with
    | 0, hu => simp [cellsU] at hu; subst hu; simp [Addr.add]
    | 1, hu => simp [cellsU] at hu; subst hu; simp [Addr.add]
    | 2, hu => simp [cellsU] at hu; subst hu; simp [Addr.add]
  · intro v' w' a1 a2 _ a4
    refine h v' w' ?_ ?_ (by simpa using a4)
    · unfold OwnU
      rw [cellsU_app, List.length_append]
      exact a1
    · exact ⟨a2.os, a2.tape, a2.output, Nat.le_trans (by simp) a2.size, fun k hk hne => (a2.block k (by simp; omega) hne).trans (heap_alloc_old w _ hk)⟩
/-- What the walk gives. -/
def WsP (w : World) (R : Option (List Int × Nat)) (e : Ending) (w' : World) : Prop :=
  Bl w w' ∧ match R with
    | none => e = .returned (.tuple #[.slice none 0 0, .int .i64 0, .bool false])
    | some r => ∃ lv L, e = .returned (.tuple #[lv, .int .i64 (r.2 : Nat), .bool true]) ∧ OwnU w' w.heap.size lv L ∧ r.1 = L.map flS ∧ r.2 ≤ L.length ∧ L.length ≤ 400 ∧ ∀ s ∈ L, okS3 s
theorem OwnU.mono {w : World} {B B' : Nat} {v : Value} {fs : List Sud} (h : OwnU w B v fs) (hB : B' ≤ B) : OwnU w B' v fs := by
  obtain ⟨h1, h2⟩ := h
  refine ⟨h1, ?_⟩
  rcases h2 with h2 | ⟨g, cap, cur, hv, hg, r⟩
  · exact .inl h2
  · exact .inr ⟨g, cap, cur, hv, Nat.le_trans hB hg, r⟩
set_option maxRecDepth 100000 in
set_option maxHeartbeats 12800000 in
theorem iwalk_any {p0 d0 q0 : Int} (w : World) (h0 : okU p0 d0 q0 = true) : Calls Tryz.prog 98 #[.agg #[.int .i64 p0, .int .i64 d0, .int .i64 q0]] w (WsP w (wkF [] [] (p0, d0, q0))) := by
  obtain ⟨R, hR⟩ : ∃ R, wkF [] [] (p0, d0, q0) = R := ⟨_, rfl⟩
  rw [hR]
  have HR := Lib.hid hR
  have H0 := Lib.hid h0
  clear hR h0
  have hmm := @run_makeMap Tryz.prog
  go_enter Tryz.func98, Tryz.ntmps98
  go_wp2_with fail
  have xS0 : Bx ((w.alloc (.cells #[.int .i64 p0, .int .i64 d0, .int .i64 q0] 33)).alloc (.map #[] 0)) w.heap.size #[.int .i64 p0, .int .i64 d0, .int .i64 q0] := (Bx.new (b := w.heap.size) w _ 33 rfl).alloc _
  have xM0 : MpU ((w.alloc (.cells #[.int .i64 p0, .int .i64 d0, .int .i64 q0] 33)).alloc (.map #[] 0)) (w.heap.size + 1) [] := by have := MpU.made (w.alloc (.cells #[.int .i64 p0, .int .i64 d0, .int .i64 q0] 33)); simpa using this
  have B0 : Bl w ((w.alloc (.cells #[.int .i64 p0, .int .i64 d0, .int .i64 q0] 33)).alloc (.map #[] 0)) := bl_alloc (bl_alloc (bl_refl w) _) _
  have z0 : w.heap.size + 2 ≤ (((w.alloc (.cells #[.int .i64 p0, .int .i64 d0, .int .i64 q0] 33)).alloc (.map #[] 0))).heap.size := by simp
  generalize ((w.alloc (.cells #[.int .i64 p0, .int .i64 d0, .int .i64 q0] 33)).alloc (.map #[] 0)) = wa at *
  go_loopg [5] 401 (fun n s5 wr => ∃ (p d q : Int) (L : List Sud), Bx wr w.heap.size #[.int .i64 p, .int .i64 d, .int .i64 q] ∧ MpU wr (w.heap.size + 1) L ∧ OwnU wr (w.heap.size + 2) s5 L ∧ Hid (wkF L (L.map flS) (p, d, q) = R) ∧ Hid (okU p d q = true) ∧ Hid (∀ s ∈ L, okS3 s) ∧ L.length ≤ 400 ∧ n + L.length = 401 ∧ Bl w wr ∧ w.heap.size + 2 ≤ wr.heap.size)
  case atStart => exact ⟨p0, d0, q0, [], xS0, xM0, OwnU.nil _ _, HR, H0, Lib.hid (fun s hs => by simp at hs), by simp, by simp, B0, z0⟩
  case round =>
    obtain ⟨p, d, q, L, xS, xM, hL, HE, HOK, HALL, hL4, hn, hB, hz⟩ := hrel
    clear xS0 xM0 B0 z0
    have HL := Lib.hid hL
    have HN := Lib.hid hn
    obtain ⟨la, lc, rfl, _⟩ := hL.form
    clear hL hn
    obtain ⟨h1, h2, h3, h4, _⟩ := okU_iff.1 HOK.out
    have r1 : R64 p := by unfold R64; omega
    have r2 : R64 d := by unfold R64; omega
    have r3 : R64 q := by unfold R64; omega
    obtain ⟨c, hlook0, hc⟩ := xM.look r1 r2 r3
    have hlook := hlook0 rfl
    clear hlook0
    simp only [agU] at hlook
    have HXM := Lib.hid xM
    clear xM
    obtain ⟨cS, fS, zS⟩ := xS.out
    cases hf : fiU (p, d, q) L 0 with
    | some k =>
      have hk := fiU_lt _ _ _ hf
      obtain rfl := hc k hf
      have hRR : R = some (L.map flS, k) := by rw [← HE.out, wk_met hL4 hf]
      have HRR := Lib.hid hRR
      have hk2 : k ≤ L.length := by omega
      simp only [hf, Option.isSome_some] at hlook
      clear hf hRR hk hc
      go_wp2
      refine bodyPost_ret (v := .tuple #[.slice la L.length lc, .int .i64 (k : Nat), .bool true]) (by simp only [results, Tryz.results98]; go_simp) rfl ?_
      rw [HRR.out]
      exact ⟨hB, _, L, rfl, HL.out.mono (by omega), rfl, hk2, hL4, HALL.out⟩
    | none =>
      have HF := Lib.hid hf
      simp only [hf, Option.isSome_none] at hlook
      clear hf hc
      by_cases h4' : L.length = 400
      · have hRR : R = none := by rw [← HE.out, wk_full h4' HF.out]
        have HRR := Lib.hid hRR
        have h4n : ((L.length : Int) == 400) = true := by simp; omega
        clear hRR h4'
        go_wp2
        refine bodyPost_ret (v := .tuple #[.slice none 0 0, .int .i64 0, .bool false]) (by simp only [results, Tryz.results98]; go_simp) rfl ?_
        rw [HRR.out]
        exact ⟨hB, rfl⟩
      · have hl4 : L.length < 400 := by omega
        have h4n : ((L.length : Int) == 400) = false := by simp; omega
        clear h4'
        obtain ⟨w1, hst, xM1, hg1⟩ := HXM.out.store r1 r2 r3 hL4 HF.out
        simp only [agU] at hst
        have HXM1 := Lib.hid xM1
        have xS1 := xS.grownApartF hg1 (by simp)
        have HL1 := Lib.hid (HL.out.grown hg1 (by
          cases e : (Value.slice la L.length lc).ownBlock with
          | none => exact .inl rfl
          | some k => exact .inr fun q => by have := (HL.out.lt k e).1; injection q with q; omega))
        have B1 := bl_grown hB hg1 (fun k hk => by injection hk with hk; omega)
        have z1 : w.heap.size + 2 ≤ w1.heap.size := Nat.le_trans hz hg1.size
        obtain ⟨cS1, fS1, zS1⟩ := xS1.out
        go_wp2_with (at_builtin; refine wpList_append_su rfl _ _ rfl (w.heap.size + 2) _ L (by rfl) HL1.out p d q (by first | rfl | simp [Act.eval]) (by omega) (by omega) ?_; intro v' wn ho hg hloc; obtain ⟨a1, n1, rfl, _⟩ := ho.form; have xSn := xS1.grownApartF hg (row_ne HL1.out (by omega)); clear cS fS zS cS1 fS1 zS1 hlook hst xS xS1; obtain ⟨cS, fS, zS⟩ := xSn.out)
        have hln : (L ++ [(p, d, q)]).length = L.length + 1 := by simp
        rw [hln] at ho
        have HL2 := Lib.hid ho
        have xM2 := HXM1.out.kept hg (fun e => row_ne HL1.out (by omega) e.symm)
        have HXM2 := Lib.hid xM2
        have B2 := bl_grown B1 hg (fun k hk => by have := (HL1.out.lt k hk).1; omega)
        have z2 : w.heap.size + 2 ≤ wn.heap.size := Nat.le_trans z1 hg.size
        have hfl : flS (p, d, q) = flU p d q := rfl
        clear ho hg hloc hln HXM HXM1 HL HL1 xM1 hg1 xM2 B1 z1 hB hz
        refine (inxU_any wn HOK.out).mono ?_
        rintro e w5 ⟨x, z, rfl, hX, hb5⟩
        have HX := Lib.hid hX
        have xS5 := (xSn.below hb5).alloc (.cells #[.int .i64 x, .int .i64 d, .int .i64 z] 33)
        have xN5 : Bx (w5.alloc (.cells #[.int .i64 x, .int .i64 d, .int .i64 z] 33)) w5.heap.size #[.int .i64 x, .int .i64 d, .int .i64 z] := Bx.new (b := w5.heap.size) w5 _ 33 rfl
        have HL5 := Lib.hid ((HL2.out.below hb5).below (bl_alloc (bl_refl _) (.cells #[.int .i64 x, .int .i64 d, .int .i64 z] 33)))
        have HXM5 := Lib.hid ((HXM2.out.below hb5).below (bl_alloc (bl_refl _) (.cells #[.int .i64 x, .int .i64 d, .int .i64 z] 33)))
        have B5 := bl_alloc (bl_call B2 hb5) (.cells #[.int .i64 x, .int .i64 d, .int .i64 z] 33)
        have z5 : w.heap.size + 2 ≤ w5.heap.size := Nat.le_trans z2 hb5.size
        have z6 : w5.heap.size + 1 ≤ (w5.alloc (.cells #[.int .i64 x, .int .i64 d, .int .i64 z] 33)).heap.size := by simp
        clear hX xSn HL2 HXM2 B2 z2 cS fS zS
        obtain ⟨cS, fS, zS⟩ := xS5.out
        obtain ⟨cN, fN, zN⟩ := xN5.out
        cases hb : (nxU p d q (flU p d q)).2 with
        | false =>
          have hRR : R = none := by rw [← HE.out, wk_bad hl4 HF.out hb]
          have HRR := Lib.hid hRR
          clear hRR hb
          go_wp2
          refine bodyPost_ret (v := .tuple #[.slice none 0 0, .int .i64 0, .bool false]) (by simp only [results, Tryz.results98]; go_simp) rfl ?_
          rw [HRR.out]
          exact ⟨B5, rfl⟩
        | true =>
          have hE5 := HX.out hb
          have HEE := Lib.hid (show wkF (L ++ [(p, d, q)]) ((L ++ [(p, d, q)]).map flS) (x, d, z) = R by rw [← HE.out, wk_on hl4 HF.out hb, hE5, List.map_append]; rfl)
          have HOK5 := Lib.hid (show okU x d z = true by have := nx_ok hb; rw [hE5] at this; exact this)
          have HALL5 := Lib.hid (show ∀ s ∈ L ++ [(p, d, q)], okS3 s from fun s hs => by
            rcases List.mem_append.1 hs with h | h
            · exact HALL.out s h
            · simp at h; subst h; exact HOK.out)
          clear hb hE5
          go_wp2
          go_roundg (gk - 1)
          case measure => have := HN.out; omega
          case rel =>
            have hl1 : (L ++ [(p, d, q)]).length = L.length + 1 := by simp
            refine ⟨x, d, z, L ++ [(p, d, q)], ((xS5.set 0 _).set 1 _).set 2 _, (((HXM5.out.far (p := ⟨w.heap.size, 0, none⟩) (by simp) _).far (p := ⟨w.heap.size, 1, none⟩) (by simp) _).far (p := ⟨w.heap.size, 2, none⟩) (by simp) _), (((HL5.out.far (p := ⟨w.heap.size, 0, none⟩) ?_ _).far (p := ⟨w.heap.size, 1, none⟩) ?_ _).far (p := ⟨w.heap.size, 2, none⟩) ?_ _), HEE, HOK5, HALL5, by omega, by have := HN.out; omega, bl_set (bl_set (bl_set B5 (p := ⟨w.heap.size, 0, none⟩) (by simp) _) (p := ⟨w.heap.size, 1, none⟩) (by simp) _) (p := ⟨w.heap.size, 2, none⟩) (by simp) _, by simp; omega⟩
            · exact fun k hk => by have := (HL5.out.lt k hk).1; simp; omega
            · exact fun k hk => by have := (HL5.out.lt k hk).1; simp; omega
            · exact fun k hk => by have := (HL5.out.lt k hk).1; simp; omega

end Go.Proofs.YtgkelemfbmmgnaaGreat

