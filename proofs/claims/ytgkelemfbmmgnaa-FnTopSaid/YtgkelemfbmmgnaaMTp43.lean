/- Some of the texts of this claim, joined in one file: SurdJ, FirstT. -/
import Derived.Test.YtgkelemfbmmgnaaMTp42
import Derived.Test.YtgkelemfbmmgnaaMTp35
import Derived.Test.YtgkelemfbmmgnaaMTp36
import Derived.Test.YtgkelemfbmmgnaaMTp9
/- Surds: the program's walk along surds. Each theorem names its conditions. -/
namespace Go.Proofs.Ytgkelemfbmmgnaa
open Go.RowKit
set_option linter.unusedVariables false
set_option linter.unusedSimpArgs false

def flS (s : Sud) : Int := flU s.1 s.2.1 s.2.2
def okS3 (s : Sud) : Prop := okU s.1 s.2.1 s.2.2 = true
/-- append(s, x): one surd. -/
theorem wpList_append_su {w : World} {ops : Array Oper} {rest : List Oper} {o : Oper} {a : Act} {Q : Exit → Act → World → Prop} (hgd : o.guard = none) (s x : Operand)
    (ho : o.op = .call { callee := .builtin .append, args := #[s, x], argTypes := #[124, 124] })
    (B : Nat) (v : Value) (fs : List Sud) (hs : a.eval s = v) (hown : OwnU w B v fs) (p d q : Int)
    (hx : a.eval x = .slice (some ⟨w.heap.size, 0, none⟩) 1 1) (hl : fs.length < 1000000000) (hB : B ≤ w.heap.size)
    (h : ∀ v' w', OwnU w' B v' (fs ++ [(p, d, q)]) → w.grownBy w' v.ownBlock → (v'.ownBlock = v.ownBlock ∨ v'.ownBlock = some (w.heap.size + 1)) → wpList Try.prog ops Q rest (a.put o.dst v') w') :
    wpList Try.prog ops Q (o :: rest) a (w.alloc (.cells #[.int .i64 p, .int .i64 d, .int .i64 q] 52)) := by
  obtain ⟨i0, hi, hz0, hz1, hz2⟩ := info_parts info_su
  refine wpList_append_own_at _ hgd s x 124 ho B 52 i0 (.agg #[.int .i64 0, .int .i64 0, .int .i64 0]) 3 24 Try.underlying124 hi hz0 hz1 hz2 rfl (by decide) v fs.length (cellsU fs) hs (World.ownsRow.alloc hown _) ⟨w.heap.size, 0, none⟩ 1 1 (cellsU [(p, d, q)]) hx (by simp [cellsU]) ?_ (cellsU_one _) (by unfold maxLen; omega) (by omega) (by simp; omega) ?_
  · intro j u hu
    match j, hu with
    | 0, hu => simp [cellsU] at hu; subst hu; simp [Addr.add]
    | 1, hu => simp [cellsU] at hu; subst hu; simp [Addr.add]
    | 2, hu => simp [cellsU] at hu; subst hu; simp [Addr.add]
  · intro v' w' a1 a2 _ a4
    refine h v' w' ?_ ?_ (by simpa using a4)
    · unfold OwnU
      rw [cellsU_app, List.length_append]
      exact a1
    · exact ⟨a2.os, a2.tape, a2.output, Nat.le_trans (by simp) a2.size, fun k hk hne => (a2.block k (by simp; omega) hne).trans (heap_alloc_old w _ hk)⟩
/-- What the walk gives. -/
def WsP (w : World) (R : Option (List Int × Nat)) (e : Ending) (w' : World) : Prop :=
  Bl w w' ∧ match R with
    | none => e = .returned (.tuple #[.slice none 0 0, .int .i64 0, .bool false])
    | some r => ∃ lv L, e = .returned (.tuple #[lv, .int .i64 (r.2 : Nat), .bool true]) ∧ OwnU w' w.heap.size lv L ∧ r.1 = L.map flS ∧ r.2 ≤ L.length ∧ L.length ≤ 400 ∧ ∀ s ∈ L, okS3 s
theorem OwnU.mono {w : World} {B B' : Nat} {v : Value} {fs : List Sud} (h : OwnU w B v fs) (hB : B' ≤ B) : OwnU w B' v fs := by
  obtain ⟨h1, h2⟩ := h
  refine ⟨h1, ?_⟩
  rcases h2 with h2 | ⟨g, cap, cur, hv, hg, r⟩
  · exact .inl h2
  · exact .inr ⟨g, cap, cur, hv, Nat.le_trans hB hg, r⟩
set_option maxRecDepth 100000 in
set_option maxHeartbeats 12800000 in
theorem iwalk_any {p0 d0 q0 : Int} (w : World) (h0 : okU p0 d0 q0 = true) : Calls Try.prog 102 #[.agg #[.int .i64 p0, .int .i64 d0, .int .i64 q0]] w (WsP w (wkF [] [] (p0, d0, q0))) := by
  obtain ⟨R, hR⟩ : ∃ R, wkF [] [] (p0, d0, q0) = R := ⟨_, rfl⟩
  rw [hR]
  have HR := Lib.hid hR
  have H0 := Lib.hid h0
  clear hR h0
  have hmm := @run_makeMap Try.prog
  go_enter Try.func102, Try.ntmps102
  go_wp2_with fail
  have xS0 : Bx ((w.alloc (.cells #[.int .i64 p0, .int .i64 d0, .int .i64 q0] 52)).alloc (.map #[] 0)) w.heap.size #[.int .i64 p0, .int .i64 d0, .int .i64 q0] := (Bx.new (b := w.heap.size) w _ 52 rfl).alloc _
  have xM0 : MpU ((w.alloc (.cells #[.int .i64 p0, .int .i64 d0, .int .i64 q0] 52)).alloc (.map #[] 0)) (w.heap.size + 1) [] := by have := MpU.made (w.alloc (.cells #[.int .i64 p0, .int .i64 d0, .int .i64 q0] 52)); simpa using this
  have B0 : Bl w ((w.alloc (.cells #[.int .i64 p0, .int .i64 d0, .int .i64 q0] 52)).alloc (.map #[] 0)) := bl_alloc (bl_alloc (bl_refl w) _) _
  have z0 : w.heap.size + 2 ≤ (((w.alloc (.cells #[.int .i64 p0, .int .i64 d0, .int .i64 q0] 52)).alloc (.map #[] 0))).heap.size := by simp
  generalize ((w.alloc (.cells #[.int .i64 p0, .int .i64 d0, .int .i64 q0] 52)).alloc (.map #[] 0)) = wa at *
  go_loopg [5] 401 (fun n s5 wr => ∃ (p d q : Int) (L : List Sud), Bx wr w.heap.size #[.int .i64 p, .int .i64 d, .int .i64 q] ∧ MpU wr (w.heap.size + 1) L ∧ OwnU wr (w.heap.size + 2) s5 L ∧ Hid (wkF L (L.map flS) (p, d, q) = R) ∧ Hid (okU p d q = true) ∧ Hid (∀ s ∈ L, okS3 s) ∧ L.length ≤ 400 ∧ n + L.length = 401 ∧ Bl w wr ∧ w.heap.size + 2 ≤ wr.heap.size)
  case atStart => exact ⟨p0, d0, q0, [], xS0, xM0, OwnU.nil _ _, HR, H0, Lib.hid (fun s hs => by simp at hs), by simp, by simp, B0, z0⟩
  case round =>
    obtain ⟨p, d, q, L, xS, xM, hL, HE, HOK, HALL, hL4, hn, hB, hz⟩ := hrel
    clear xS0 xM0 B0 z0
    have HL := Lib.hid hL
    have HN := Lib.hid hn
    obtain ⟨la, lc, rfl, _⟩ := hL.form
    clear hL hn
    obtain ⟨h1, h2, h3, h4, _⟩ := okU_iff.1 HOK.out
    have r1 : R64 p := by unfold R64; omega
    have r2 : R64 d := by unfold R64; omega
    have r3 : R64 q := by unfold R64; omega
    obtain ⟨c, hlook0, hc⟩ := xM.look r1 r2 r3
    have hlook := hlook0 rfl
    clear hlook0
    simp only [agU] at hlook
    have HXM := Lib.hid xM
    clear xM
    obtain ⟨cS, fS, zS⟩ := xS.out
    cases hf : fiU (p, d, q) L 0 with
    | some k =>
      have hk := fiU_lt _ _ _ hf
      obtain rfl := hc k hf
      have hRR : R = some (L.map flS, k) := by rw [← HE.out, wk_met hL4 hf]
      have HRR := Lib.hid hRR
      have hk2 : k ≤ L.length := by omega
      simp only [hf, Option.isSome_some] at hlook
      clear hf hRR hk hc
      go_wp2
      refine bodyPost_ret (v := .tuple #[.slice la L.length lc, .int .i64 (k : Nat), .bool true]) (by simp only [results, Try.results102]; go_simp) rfl ?_
      rw [HRR.out]
      exact ⟨hB, _, L, rfl, HL.out.mono (by omega), rfl, hk2, hL4, HALL.out⟩
    | none =>
      have HF := Lib.hid hf
      simp only [hf, Option.isSome_none] at hlook
      clear hf hc
      by_cases h4' : L.length = 400
      · have hRR : R = none := by rw [← HE.out, wk_full h4' HF.out]
        have HRR := Lib.hid hRR
        have h4n : ((L.length : Int) == 400) = true := by simp; omega
        clear hRR h4'
        go_wp2
        refine bodyPost_ret (v := .tuple #[.slice none 0 0, .int .i64 0, .bool false]) (by simp only [results, Try.results102]; go_simp) rfl ?_
        rw [HRR.out]
        exact ⟨hB, rfl⟩
      · have hl4 : L.length < 400 := by omega
        have h4n : ((L.length : Int) == 400) = false := by simp; omega
        clear h4'
        obtain ⟨w1, hst, xM1, hg1⟩ := HXM.out.store r1 r2 r3 hL4 HF.out
        simp only [agU] at hst
        have HXM1 := Lib.hid xM1
        have xS1 := xS.grownApartF hg1 (by simp)
        have HL1 := Lib.hid (HL.out.grown hg1 (by
          cases e : (Value.slice la L.length lc).ownBlock with
          | none => exact .inl rfl
          | some k => exact .inr fun q => by have := (HL.out.lt k e).1; injection q with q; omega))
        have B1 := bl_grown hB hg1 (fun k hk => by injection hk with hk; omega)
        have z1 : w.heap.size + 2 ≤ w1.heap.size := Nat.le_trans hz hg1.size
        obtain ⟨cS1, fS1, zS1⟩ := xS1.out
        go_wp2_with (at_builtin; refine wpList_append_su rfl _ _ rfl (w.heap.size + 2) _ L (by rfl) HL1.out p d q (by first | rfl | simp [Act.eval]) (by omega) (by omega) ?_; intro v' wn ho hg hloc; obtain ⟨a1, n1, rfl, _⟩ := ho.form; have xSn := xS1.grownApartF hg (row_ne HL1.out (by omega)); clear cS fS zS cS1 fS1 zS1 hlook hst xS xS1; obtain ⟨cS, fS, zS⟩ := xSn.out)
        have hln : (L ++ [(p, d, q)]).length = L.length + 1 := by simp
        rw [hln] at ho
        have HL2 := Lib.hid ho
        have xM2 := HXM1.out.kept hg (fun e => row_ne HL1.out (by omega) e.symm)
        have HXM2 := Lib.hid xM2
        have B2 := bl_grown B1 hg (fun k hk => by have := (HL1.out.lt k hk).1; omega)
        have z2 : w.heap.size + 2 ≤ wn.heap.size := Nat.le_trans z1 hg.size
        have hfl : flS (p, d, q) = flU p d q := rfl
        clear ho hg hloc hln HXM HXM1 HL HL1 xM1 hg1 xM2 B1 z1 hB hz
        refine (inxU_any wn HOK.out).mono ?_
        rintro e w5 ⟨x, z, rfl, hX, hb5⟩
        have HX := Lib.hid hX
        have xS5 := (xSn.below hb5).alloc (.cells #[.int .i64 x, .int .i64 d, .int .i64 z] 52)
        have xN5 : Bx (w5.alloc (.cells #[.int .i64 x, .int .i64 d, .int .i64 z] 52)) w5.heap.size #[.int .i64 x, .int .i64 d, .int .i64 z] := Bx.new (b := w5.heap.size) w5 _ 52 rfl
        have HL5 := Lib.hid ((HL2.out.below hb5).below (bl_alloc (bl_refl _) (.cells #[.int .i64 x, .int .i64 d, .int .i64 z] 52)))
        have HXM5 := Lib.hid ((HXM2.out.below hb5).below (bl_alloc (bl_refl _) (.cells #[.int .i64 x, .int .i64 d, .int .i64 z] 52)))
        have B5 := bl_alloc (bl_call B2 hb5) (.cells #[.int .i64 x, .int .i64 d, .int .i64 z] 52)
        have z5 : w.heap.size + 2 ≤ w5.heap.size := Nat.le_trans z2 hb5.size
        have z6 : w5.heap.size + 1 ≤ (w5.alloc (.cells #[.int .i64 x, .int .i64 d, .int .i64 z] 52)).heap.size := by simp
        clear hX xSn HL2 HXM2 B2 z2 cS fS zS
        obtain ⟨cS, fS, zS⟩ := xS5.out
        obtain ⟨cN, fN, zN⟩ := xN5.out
        cases hb : (nxU p d q (flU p d q)).2 with
        | false =>
          have hRR : R = none := by rw [← HE.out, wk_bad hl4 HF.out hb]
          have HRR := Lib.hid hRR
          clear hRR hb
          go_wp2
          refine bodyPost_ret (v := .tuple #[.slice none 0 0, .int .i64 0, .bool false]) (by simp only [results, Try.results102]; go_simp) rfl ?_
          rw [HRR.out]
          exact ⟨B5, rfl⟩
        | true =>
          have hE5 := HX.out hb
          have HEE := Lib.hid (show wkF (L ++ [(p, d, q)]) ((L ++ [(p, d, q)]).map flS) (x, d, z) = R by rw [← HE.out, wk_on hl4 HF.out hb, hE5, List.map_append]; rfl)
          have HOK5 := Lib.hid (show okU x d z = true by have := nx_ok hb; rw [hE5] at this; exact this)
          have HALL5 := Lib.hid (show ∀ s ∈ L ++ [(p, d, q)], okS3 s from fun s hs => by
            rcases List.mem_append.1 hs with h | h
            · exact HALL.out s h
            · simp at h; subst h; exact HOK.out)
          clear hb hE5
          go_wp2
          go_roundg (gk - 1)
          case measure => have := HN.out; omega
          case rel =>
            have hl1 : (L ++ [(p, d, q)]).length = L.length + 1 := by simp
            refine ⟨x, d, z, L ++ [(p, d, q)], ((xS5.set 0 _).set 1 _).set 2 _, (((HXM5.out.far (p := ⟨w.heap.size, 0, none⟩) (by simp) _).far (p := ⟨w.heap.size, 1, none⟩) (by simp) _).far (p := ⟨w.heap.size, 2, none⟩) (by simp) _), (((HL5.out.far (p := ⟨w.heap.size, 0, none⟩) ?_ _).far (p := ⟨w.heap.size, 1, none⟩) ?_ _).far (p := ⟨w.heap.size, 2, none⟩) ?_ _), HEE, HOK5, HALL5, by omega, by have := HN.out; omega, bl_set (bl_set (bl_set B5 (p := ⟨w.heap.size, 0, none⟩) (by simp) _) (p := ⟨w.heap.size, 1, none⟩) (by simp) _) (p := ⟨w.heap.size, 2, none⟩) (by simp) _, by simp; omega⟩
            · exact fun k hk => by have := (HL5.out.lt k hk).1; simp; omega
            · exact fun k hk => by have := (HL5.out.lt k hk).1; simp; omega
            · exact fun k hk => by have := (HL5.out.lt k hk).1; simp; omega

end Go.Proofs.Ytgkelemfbmmgnaa

/- The first terms of a source: the program and the reference. Each theorem names its conditions. -/
namespace Go.Proofs.Ytgkelemfbmmgnaa
open Go.RowKit
set_option linter.unusedVariables false
set_option linter.unusedSimpArgs false

/-- At most n terms from place k on. -/
def firstG (s : Src) : Nat → Nat → List Int
  | 0, _ => []
  | n + 1, k => if (termP s k).2 then (termP s k).1 :: firstG s n (k + 1) else []
/-- The first terms. -/
def firstL (s : Src) (n : Nat) : List Int := firstG s n 0
theorem firstG_no {s : Src} {n k : Nat} {x : Int} (h : termP s k = (x, false)) : firstG s n k = [] := by
  cases n with
  | zero => rfl
  | succ n => rw [firstG, h]; rfl
theorem firstG_yes {s : Src} {M k : Nat} {x : Int} {xs T : List Int} (h : termP s k = (x, true)) (hk : k < M) (e : xs ++ firstG s (M - k) k = T) : (xs ++ [x]) ++ firstG s (M - (k + 1)) (k + 1) = T := by
  rw [show M - k = (M - (k + 1)) + 1 by omega, firstG, h] at e
  rw [← e]
  simp
theorem firstG_len (s : Src) (n : Nat) : ∀ k, (firstG s n k).length ≤ n := by
  induction n with
  | zero => intro k; simp [firstG]
  | succ n ih =>
    intro k
    rw [firstG]
    split
    · simp [ih]
    · simp
theorem termP_bd {s : Src} (ok : OkSrc s) (k : Nat) (hk : k ≤ 1000000) : -1000000000 ≤ (termP s k).1 ∧ (termP s k).1 ≤ 1000001000000 := by
  unfold termP
  split
  · rename_i h
    have e : s.H[k]? = some s.H[k] := List.getElem?_eq_getElem h
    have := ok.hd k _ e
    unfold lowAt at this
    simp [e]
    split at this <;> omega
  · split
    · simp
    · rename_i h h2
      have hm : (k - s.H.length) % s.P.length < s.P.length := Nat.mod_lt _ (by omega)
      have hm2 : (k - s.H.length) % s.P.length < s.G.length := by rw [ok.gp]; exact hm
      have e1 : s.P[(k - s.H.length) % s.P.length]? = some s.P[(k - s.H.length) % s.P.length] := List.getElem?_eq_getElem hm
      have e2 : s.G[(k - s.H.length) % s.P.length]? = some s.G[(k - s.H.length) % s.P.length] := List.getElem?_eq_getElem hm2
      have b1 := ok.per _ _ e1
      have b2 := ok.gr _ _ e2
      have hq : (k - s.H.length) / s.P.length ≤ k := Nat.le_trans (Nat.div_le_self _ _) (by omega)
      simp only [List.getD_eq_getElem?_getD, e1, e2, Option.getD_some]
      generalize (k - s.H.length) / s.P.length = Q at *
      have hp := prod_bd (Q : Int) s.G[(k - s.H.length) % s.P.length] 1000000 1000000 (by omega) (by omega) b2.1 b2.2
      omega
theorem iterm_eqF {h p g : Value} {s : Src} {k : Nat} {x : Int} {o : Bool} (he : termP s k = (x, o)) (w : World) (ha : SlS w h p g s) (ok : OkPer s) (h1 : k ≤ 1000000) :
    Calls Try.prog 84 #[.agg #[h, p, g], .int .i64 k] w fun e w' => e = .returned (.tuple #[.int .i64 x, .bool o]) ∧ Bl w w' := by
  have := iterm_any h p g s k w ha ok (by omega) (by omega)
  rw [Int.toNat_natCast, he] at this
  exact this
theorem sterm_eqT {h p g : Value} {s : Src} {k : Nat} {x : Int} {o : Bool} (he : termP s k = (x, o)) (w : World) (b : Nat) (ha : SlS w h p g s) (hx : Bx w b #[h, p, g]) (ok : OkPer s) (h1 : k ≤ 1000000) :
    Calls Try.prog 52 #[.pointer (some ⟨b, 0, none⟩), .int .i64 k] w fun e w' => e = .returned (.tuple #[.int .i64 x, .bool o]) ∧ Bl w w' := by
  have := sterm_any h p g s k w b ha hx ok (by omega) (by omega)
  rw [Int.toNat_natCast, he] at this
  exact this
theorem lsizeB (a : Option Addr) (n c : Nat) (w : World) (hn : n ≤ 9223372036854775807) : Calls Try.prog 68 #[.slice a n c] w fun e w' => e = .returned (.int .i64 n) ∧ Bl w w' :=
  (lsize_any a n c w hn).mono (by rintro e w' ⟨h1, rfl⟩; exact ⟨h1, bl_refl _⟩)
theorem Bx.grownApart {w w' : World} {b : Nat} {cs : Array Value} {row : Option Nat} (h : Bx w b cs) (hg : w.grownBy w' row) (hn : row ≠ some b) : Bx w' b cs := by
  have hl := h.out.2.2
  obtain ⟨t, h⟩ := h
  exact ⟨t, (hg.block b hl (fun e => hn e.symm)).trans h⟩

end Go.Proofs.Ytgkelemfbmmgnaa

