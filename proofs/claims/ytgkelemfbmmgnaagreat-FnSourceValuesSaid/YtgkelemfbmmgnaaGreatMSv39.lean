/- Some of the texts of this claim, joined in one file: MapM, MapI. -/
import Derived.Test.YtgkelemfbmmgnaaGreatMSv38
import Derived.Test.YtgkelemfbmmgnaaGreatMSv13
import Derived.Test.YtgkelemfbmmgnaaGreatMSv12
/- MapSource: plain. No condition but what each theorem names. -/
namespace Go.Proofs.YtgkelemfbmmgnaaGreat
open Go.RowKit
set_option linter.unusedVariables false
set_option linter.unusedSimpArgs false


/-- What is told of the rest: terms, at most m of them, and a code. -/
def endC (r : List Int × Int) (m : Nat) : List Int × Int := if r.2 = 0 then (r.1.take m, 0) else ([], r.2)
noncomputable def mapN (src : Src) (m : Nat) : Nat → Nat → St → List Int → List Int × Int
  | 0, _, _, _ => ([], 10)
  | f + 1, k, s, out =>
    if (termP src k).2 then (if (termP src k).1 ≤ 1000000000 then (if bdS (fedF s (termP src k).1) then (match emitF m (fedF s (termP src k).1) out with
        | none => ([], 5)
        | some r => if m ≤ r.2.length then (r.2, 0) else mapN src m f (k + 1) r.1 r.2) else ([], 5)) else ([], 5))
    else endC (endF s out) m
noncomputable def mapR (src : Src) (m k : Nat) (s : St) (out : List Int) : List Int × Int := mapN src m (1000 - k) k s out
theorem map_open {src : Src} {m k : Nat} {s : St} {out : List Int} (h : k = 1000) : mapR src m k s out = ([], 10) := by
  subst h; rfl
theorem map_end {src : Src} {m k : Nat} {s : St} {out : List Int} (hk : k < 1000) (h : (termP src k).2 = false) : mapR src m k s out = endC (endF s out) m := by
  unfold mapR; rw [show 1000 - k = (999 - k) + 1 by omega, mapN, h]; rfl
theorem map_big {src : Src} {m k : Nat} {s : St} {out : List Int} {t : Int} (hk : k < 1000) (h : termP src k = (t, true)) (ht : ¬ t ≤ 1000000000) : mapR src m k s out = ([], 5) := by
  unfold mapR; rw [show 1000 - k = (999 - k) + 1 by omega, mapN, h]; simp [ht]
theorem map_unb {src : Src} {m k : Nat} {s : St} {out : List Int} {t : Int} (hk : k < 1000) (h : termP src k = (t, true)) (ht : t ≤ 1000000000) (hb : bdS (fedF s t) = false) : mapR src m k s out = ([], 5) := by
  unfold mapR; rw [show 1000 - k = (999 - k) + 1 by omega, mapN, h]; simp [ht, hb]
theorem map_none {src : Src} {m k : Nat} {s : St} {out : List Int} {t : Int} (hk : k < 1000) (h : termP src k = (t, true)) (ht : t ≤ 1000000000) (hb : bdS (fedF s t) = true) (he : emitF m (fedF s t) out = none) : mapR src m k s out = ([], 5) := by
  unfold mapR; rw [show 1000 - k = (999 - k) + 1 by omega, mapN, h]; simp [ht, hb, he]
theorem map_full {src : Src} {m k : Nat} {s s2 : St} {out o2 : List Int} {t : Int} (hk : k < 1000) (h : termP src k = (t, true)) (ht : t ≤ 1000000000) (hb : bdS (fedF s t) = true) (he : emitF m (fedF s t) out = some (s2, o2)) (hm : m ≤ o2.length) : mapR src m k s out = (o2, 0) := by
  unfold mapR; rw [show 1000 - k = (999 - k) + 1 by omega, mapN, h]; simp [ht, hb, he, hm]
theorem map_on {src : Src} {m k : Nat} {s s2 : St} {out o2 : List Int} {t : Int} (hk : k < 1000) (h : termP src k = (t, true)) (ht : t ≤ 1000000000) (hb : bdS (fedF s t) = true) (he : emitF m (fedF s t) out = some (s2, o2)) (hm : ¬ m ≤ o2.length) : mapR src m k s out = mapR src m (k + 1) s2 o2 := by
  unfold mapR; rw [show 1000 - k = (999 - k) + 1 by omega, mapN, h]; simp [ht, hb, he, hm, show 1000 - (k + 1) = 999 - k by omega]
/-- Emission that stops ahead of the count keeps what holds of a run. -/
theorem emitC {m : Nat} {s s' : St} {out out' : List Int} : out.length ≤ m → m ≤ 60 → bdS s = true → EmJ s out → Det s → emitF m s out = some (s', out') → out'.length ≤ m ∧ (out'.length < m → bdS s' = true ∧ EmJ s' out' ∧ Det s') := by
  have key : ∀ f s out, out.length ≤ m → m ≤ 60 → bdS s = true → EmJ s out → Det s → emitM m f s out = some (s', out') → out'.length ≤ m ∧ (out'.length < m → bdS s' = true ∧ EmJ s' out' ∧ Det s') := by
    intro f
    induction f with
    | zero => intro s out _ _ _ _ _ h; cases h
    | succ f ih =>
      intro s out hl hm hb hj hd h
      rw [emitM] at h
      split at h
      · injection h with h; injection h with h1 h2; subst h1 h2; exact ⟨hl, fun _ => ⟨hb, hj, hd⟩⟩
      · rename_i hml
        split at h
        · injection h with h; injection h with h1 h2; subst h1 h2; exact ⟨hl, fun _ => ⟨hb, hj, hd⟩⟩
        · rename_i q hq
          split at h
          · cases h
          · split at h
            · rename_i h60 hb2
              exact ih (emF s q) (out ++ [q]) (by simp; omega) hm hb2 (hj.em hb (by omega) hq) (hd.em q) h
            · split at h
              · injection h with h; injection h with h1 h2; subst h1 h2
                refine ⟨by simp; omega, fun q => ?_⟩
                simp at q
                omega
              · cases h
  intro hl hm hb hj hd h
  exact key _ s out hl hm hb hj hd h
/-- What the terms of a valid source are. -/
theorem term_ok {src : Src} (h : OkSrc src) {k : Nat} {t : Int} (ht : termP src k = (t, true)) : -1000000000 ≤ t ∧ (1 ≤ k → 1 ≤ t) := by
  unfold termP at ht
  split at ht
  · rename_i hk
    injection ht with h1 _
    have e : src.H[k]? = some t := by rw [List.getElem?_eq_getElem hk]; rw [List.getD_eq_getElem?_getD, List.getElem?_eq_getElem hk] at h1; simpa using h1
    have := h.hd k t e
    unfold lowAt at this
    split at this <;> constructor <;> omega
  · rename_i hk
    split at ht
    · cases ht
    · rename_i hp
      injection ht with h1 _
      have hm : (k - src.H.length) % src.P.length < src.P.length := Nat.mod_lt _ (by omega)
      have hm2 : (k - src.H.length) % src.P.length < src.G.length := by rw [h.gp]; exact hm
      have a1 := h.per _ _ (List.getElem?_eq_getElem hm)
      have a2 := h.gr _ _ (List.getElem?_eq_getElem hm2)
      rw [List.getD_eq_getElem?_getD, List.getD_eq_getElem?_getD, List.getElem?_eq_getElem hm, List.getElem?_eq_getElem hm2] at h1
      simp only [Option.getD_some] at h1
      generalize src.P[(k - src.H.length) % src.P.length] = x at a1 h1
      generalize src.G[(k - src.H.length) % src.P.length] = y at a2 h1
      generalize (k - src.H.length) / src.P.length = Q at h1
      have := Int.mul_nonneg (show (0 : Int) ≤ (Q : Int) by omega) a2.1
      constructor <;> omega
/-- A source without a term at a place has fewer than thirty-one. -/
theorem term_no {src : Src} (h : OkSrc src) (h2 : (termP src 1000).2 = false) : (termP src 999).2 = false := by
  have := h.h30
  unfold termP at h2 ⊢
  rw [if_neg (by omega)] at h2 ⊢
  split at h2
  · rename_i e; rw [if_pos e]
  · cases h2
/-- MapSource: terms, and a code. -/
noncomputable def mapF (a b c d : Int) (src : Src) (n : Int) : List Int × Int :=
  if okSrc src && okS ⟨a, b, c, d⟩ then (if inB n 1 60 then mapR src n.toNat 0 ⟨a, b, c, d⟩ [] else ([], 2)) else ([], 1)
theorem own_take {w : World} {B : Nat} {a : Option Addr} {n c k : Nat} {xs : List Int} (h : Own w B (.slice a n c) xs) (hk : k ≤ xs.length) (ha : a ≠ none) : Own w B (.slice a k c) (xs.take k) := h.take k hk ha

end Go.Proofs.YtgkelemfbmmgnaaGreat

/- MapSource: the program. Each theorem names its conditions. -/
namespace Go.Proofs.YtgkelemfbmmgnaaGreat
open Go.RowKit
set_option linter.unusedVariables false
set_option linter.unusedSimpArgs false


theorem iterm_eq {h p g : Value} {src : Src} {k : Nat} {t : Int} {b : Bool} (hT : termP src k = (t, b)) (w : World) (ha : SlS w h p g src) (ok : OkPer src) (hk : k ≤ 1000) :
    Calls Tryz.prog 47 #[.agg #[h, p, g], .int .i64 (k : Int)] w fun e w' => e = .returned (.tuple #[.int .i64 t, .bool b]) ∧ Bl w w' :=
  (iterm_any h p g src k w ha ok (by omega) (by omega)).mono fun _ _ q => ⟨by rw [q.1, Int.toNat_natCast, hT], q.2⟩
theorem ivalid_eq {h p g : Value} {src : Src} {b : Bool} (hb : okSrc src = b) (w : World) (ha : SlS w h p g src) : Calls Tryz.prog 29 #[.agg #[h, p, g]] w fun e w' => e = .returned (.bool b) ∧ Bl w w' := hb ▸ ivalid_any h p g src w ha
theorem iokS_eqM {s : St} {b : Bool} (h : okS s = b) (w : World) : Calls Tryz.prog 46 #[.agg #[.int .i64 s.a, .int .i64 s.b, .int .i64 s.c, .int .i64 s.d]] w fun e w' => e = .returned (.bool b) ∧ Bl w w' := h ▸ iok_any s w
theorem endC_bad {s : St} {out : List Int} {m : Nat} (h : (endF s out).2 ≠ 0) : endC (endF s out) m = ([], (endF s out).2) := by unfold endC; rw [if_neg h]
theorem endC_ok {s : St} {out : List Int} {m : Nat} (h : (endF s out).2 = 0) : endC (endF s out) m = ((endF s out).1.take m, 0) := by unfold endC; rw [if_pos h]

set_option maxRecDepth 100000 in
set_option maxHeartbeats 12800000 in
theorem impl_MapSource (a b c d : Int) (h p g : Value) (src : Src) (n : Int) (w : World) (hs : SlS w h p g src) :
    Calls Tryz.prog 15 #[.agg #[.int .i64 a, .int .i64 b, .int .i64 c, .int .i64 d], .agg #[h, p, g], .int .i64 n] w (FinP (mapF a b c d src n) w) := by
  have HS := Lib.hid hs
  obtain ⟨ah, ch, rfl, _⟩ := hs.1.form
  obtain ⟨ap, cp, rfl, _⟩ := hs.2.1.form
  obtain ⟨ag, cg, rfl, _⟩ := hs.2.2.form
  clear hs
  cases e1 : okSrc src with
  | false =>
    have HR := Lib.hid (show mapF a b c d src n = ([], 1) by simp [mapF, e1])
    have E1 := Lib.hid e1
    clear e1
    go_enter Tryz.func15, Tryz.ntmps15
    go_wp2_with fail
    have B1 : Bl w ((w.alloc (.cells #[.int .i64 a, .int .i64 b, .int .i64 c, .int .i64 d] 40)).alloc (.cells #[.slice ah src.H.length ch, .slice ap src.P.length cp, .slice ag src.G.length cg] 29)) := (bl_alloc (bl_alloc (bl_refl _) _) _)
    have xS_1 : Bx ((w.alloc (.cells #[.int .i64 a, .int .i64 b, .int .i64 c, .int .i64 d] 40)).alloc (.cells #[.slice ah src.H.length ch, .slice ap src.P.length cp, .slice ag src.G.length cg] 29)) (w.heap.size) #[.int .i64 a, .int .i64 b, .int .i64 c, .int .i64 d] := ((Bx.new (b := w.heap.size) _ #[.int .i64 a, .int .i64 b, .int .i64 c, .int .i64 d] 40 (by first | rfl | simp)).alloc _)
    have xX_1 : Bx ((w.alloc (.cells #[.int .i64 a, .int .i64 b, .int .i64 c, .int .i64 d] 40)).alloc (.cells #[.slice ah src.H.length ch, .slice ap src.P.length cp, .slice ag src.G.length cg] 29)) (w.heap.size + 1) #[.slice ah src.H.length ch, .slice ap src.P.length cp, .slice ag src.G.length cg] := (Bx.new (b := w.heap.size + 1) _ #[.slice ah src.H.length ch, .slice ap src.P.length cp, .slice ag src.G.length cg] 29 (by first | rfl | simp))
    have zz1 : w.heap.size + 2 ≤ ((w.alloc (.cells #[.int .i64 a, .int .i64 b, .int .i64 c, .int .i64 d] 40)).alloc (.cells #[.slice ah src.H.length ch, .slice ap src.P.length cp, .slice ag src.G.length cg] 29)).heap.size := (by simp)
    generalize ((w.alloc (.cells #[.int .i64 a, .int .i64 b, .int .i64 c, .int .i64 d] 40)).alloc (.cells #[.slice ah src.H.length ch, .slice ap src.P.length cp, .slice ag src.G.length cg] 29)) = w1 at *
    obtain ⟨cS_1, fS_1, zS_1⟩ := xS_1.out
    obtain ⟨cX_1, fX_1, zX_1⟩ := xX_1.out
    refine (ivalid_eq E1.out _ (HS.out.below B1)).mono ?_
    rintro e w2 ⟨rfl, hb2⟩
    have B2 : Bl w w2 := bl_call B1 hb2
    have xS_2 : Bx w2 (w.heap.size) #[.int .i64 a, .int .i64 b, .int .i64 c, .int .i64 d] := xS_1.below hb2
    have xX_2 : Bx w2 (w.heap.size + 1) #[.slice ah src.H.length ch, .slice ap src.P.length cp, .slice ag src.G.length cg] := xX_1.below hb2
    clear cS_1 fS_1 zS_1 cX_1 fX_1 zX_1
    obtain ⟨cS_2, fS_2, zS_2⟩ := xS_2.out
    obtain ⟨cX_2, fX_2, zX_2⟩ := xX_2.out
    go_wp2
    go_ret2
    exact finp_no HR.out B2
  | true =>
    cases e2 : okS (⟨a, b, c, d⟩ : St) with
    | false =>
      have HR := Lib.hid (show mapF a b c d src n = ([], 1) by simp [mapF, e1, e2])
      have E1 := Lib.hid e1
      clear e1
      have E2 := Lib.hid e2
      clear e2
      go_enter Tryz.func15, Tryz.ntmps15
      go_wp2_with fail
      have B1 : Bl w ((w.alloc (.cells #[.int .i64 a, .int .i64 b, .int .i64 c, .int .i64 d] 40)).alloc (.cells #[.slice ah src.H.length ch, .slice ap src.P.length cp, .slice ag src.G.length cg] 29)) := (bl_alloc (bl_alloc (bl_refl _) _) _)
      have xS_1 : Bx ((w.alloc (.cells #[.int .i64 a, .int .i64 b, .int .i64 c, .int .i64 d] 40)).alloc (.cells #[.slice ah src.H.length ch, .slice ap src.P.length cp, .slice ag src.G.length cg] 29)) (w.heap.size) #[.int .i64 a, .int .i64 b, .int .i64 c, .int .i64 d] := ((Bx.new (b := w.heap.size) _ #[.int .i64 a, .int .i64 b, .int .i64 c, .int .i64 d] 40 (by first | rfl | simp)).alloc _)
      have xX_1 : Bx ((w.alloc (.cells #[.int .i64 a, .int .i64 b, .int .i64 c, .int .i64 d] 40)).alloc (.cells #[.slice ah src.H.length ch, .slice ap src.P.length cp, .slice ag src.G.length cg] 29)) (w.heap.size + 1) #[.slice ah src.H.length ch, .slice ap src.P.length cp, .slice ag src.G.length cg] := (Bx.new (b := w.heap.size + 1) _ #[.slice ah src.H.length ch, .slice ap src.P.length cp, .slice ag src.G.length cg] 29 (by first | rfl | simp))
      have zz1 : w.heap.size + 2 ≤ ((w.alloc (.cells #[.int .i64 a, .int .i64 b, .int .i64 c, .int .i64 d] 40)).alloc (.cells #[.slice ah src.H.length ch, .slice ap src.P.length cp, .slice ag src.G.length cg] 29)).heap.size := (by simp)
      generalize ((w.alloc (.cells #[.int .i64 a, .int .i64 b, .int .i64 c, .int .i64 d] 40)).alloc (.cells #[.slice ah src.H.length ch, .slice ap src.P.length cp, .slice ag src.G.length cg] 29)) = w1 at *
      obtain ⟨cS_1, fS_1, zS_1⟩ := xS_1.out
      obtain ⟨cX_1, fX_1, zX_1⟩ := xX_1.out
      refine (ivalid_eq E1.out _ (HS.out.below B1)).mono ?_
      rintro e w2 ⟨rfl, hb2⟩
      have B2 : Bl w w2 := bl_call B1 hb2
      have xS_2 : Bx w2 (w.heap.size) #[.int .i64 a, .int .i64 b, .int .i64 c, .int .i64 d] := xS_1.below hb2
      have xX_2 : Bx w2 (w.heap.size + 1) #[.slice ah src.H.length ch, .slice ap src.P.length cp, .slice ag src.G.length cg] := xX_1.below hb2
      clear cS_1 fS_1 zS_1 cX_1 fX_1 zX_1
      obtain ⟨cS_2, fS_2, zS_2⟩ := xS_2.out
      obtain ⟨cX_2, fX_2, zX_2⟩ := xX_2.out
      go_wp2_with fail
      refine (iokS_eqM (s := (⟨a, b, c, d⟩ : St)) E2.out _).mono ?_
      rintro e w3 ⟨rfl, hb3⟩
      have B3 : Bl w w3 := bl_call B2 hb3
      have xS_3 : Bx w3 (w.heap.size) #[.int .i64 a, .int .i64 b, .int .i64 c, .int .i64 d] := xS_2.below hb3
      have xX_3 : Bx w3 (w.heap.size + 1) #[.slice ah src.H.length ch, .slice ap src.P.length cp, .slice ag src.G.length cg] := xX_2.below hb3
      clear cS_2 fS_2 zS_2 cX_2 fX_2 zX_2
      obtain ⟨cS_3, fS_3, zS_3⟩ := xS_3.out
      obtain ⟨cX_3, fX_3, zX_3⟩ := xX_3.out
      go_wp2
      go_ret2
      exact finp_no HR.out B3
    | true =>
      cases e3 : inB n 1 60 with
      | false =>
        have HR := Lib.hid (show mapF a b c d src n = ([], 2) by simp [mapF, e1, e2, e3])
        have E1 := Lib.hid e1
        clear e1
        have E2 := Lib.hid e2
        clear e2
        have E3 := Lib.hid e3
        clear e3
        go_enter Tryz.func15, Tryz.ntmps15
        go_wp2_with fail
        have B1 : Bl w ((w.alloc (.cells #[.int .i64 a, .int .i64 b, .int .i64 c, .int .i64 d] 40)).alloc (.cells #[.slice ah src.H.length ch, .slice ap src.P.length cp, .slice ag src.G.length cg] 29)) := (bl_alloc (bl_alloc (bl_refl _) _) _)
        have xS_1 : Bx ((w.alloc (.cells #[.int .i64 a, .int .i64 b, .int .i64 c, .int .i64 d] 40)).alloc (.cells #[.slice ah src.H.length ch, .slice ap src.P.length cp, .slice ag src.G.length cg] 29)) (w.heap.size) #[.int .i64 a, .int .i64 b, .int .i64 c, .int .i64 d] := ((Bx.new (b := w.heap.size) _ #[.int .i64 a, .int .i64 b, .int .i64 c, .int .i64 d] 40 (by first | rfl | simp)).alloc _)
        have xX_1 : Bx ((w.alloc (.cells #[.int .i64 a, .int .i64 b, .int .i64 c, .int .i64 d] 40)).alloc (.cells #[.slice ah src.H.length ch, .slice ap src.P.length cp, .slice ag src.G.length cg] 29)) (w.heap.size + 1) #[.slice ah src.H.length ch, .slice ap src.P.length cp, .slice ag src.G.length cg] := (Bx.new (b := w.heap.size + 1) _ #[.slice ah src.H.length ch, .slice ap src.P.length cp, .slice ag src.G.length cg] 29 (by first | rfl | simp))
        have zz1 : w.heap.size + 2 ≤ ((w.alloc (.cells #[.int .i64 a, .int .i64 b, .int .i64 c, .int .i64 d] 40)).alloc (.cells #[.slice ah src.H.length ch, .slice ap src.P.length cp, .slice ag src.G.length cg] 29)).heap.size := (by simp)
        generalize ((w.alloc (.cells #[.int .i64 a, .int .i64 b, .int .i64 c, .int .i64 d] 40)).alloc (.cells #[.slice ah src.H.length ch, .slice ap src.P.length cp, .slice ag src.G.length cg] 29)) = w1 at *
        obtain ⟨cS_1, fS_1, zS_1⟩ := xS_1.out
        obtain ⟨cX_1, fX_1, zX_1⟩ := xX_1.out
        refine (ivalid_eq E1.out _ (HS.out.below B1)).mono ?_
        rintro e w2 ⟨rfl, hb2⟩
        have B2 : Bl w w2 := bl_call B1 hb2
        have xS_2 : Bx w2 (w.heap.size) #[.int .i64 a, .int .i64 b, .int .i64 c, .int .i64 d] := xS_1.below hb2
        have xX_2 : Bx w2 (w.heap.size + 1) #[.slice ah src.H.length ch, .slice ap src.P.length cp, .slice ag src.G.length cg] := xX_1.below hb2
        clear cS_1 fS_1 zS_1 cX_1 fX_1 zX_1
        obtain ⟨cS_2, fS_2, zS_2⟩ := xS_2.out
        obtain ⟨cX_2, fX_2, zX_2⟩ := xX_2.out
        go_wp2_with fail
        refine (iokS_eqM (s := (⟨a, b, c, d⟩ : St)) E2.out _).mono ?_
        rintro e w3 ⟨rfl, hb3⟩
        have B3 : Bl w w3 := bl_call B2 hb3
        have xS_3 : Bx w3 (w.heap.size) #[.int .i64 a, .int .i64 b, .int .i64 c, .int .i64 d] := xS_2.below hb3
        have xX_3 : Bx w3 (w.heap.size + 1) #[.slice ah src.H.length ch, .slice ap src.P.length cp, .slice ag src.G.length cg] := xX_2.below hb3
        clear cS_2 fS_2 zS_2 cX_2 fX_2 zX_2
        obtain ⟨cS_3, fS_3, zS_3⟩ := xS_3.out
        obtain ⟨cX_3, fX_3, zX_3⟩ := xX_3.out
        go_wp2_with fail
        refine (inB_eqS E3.out _).mono ?_
        rintro e w9 ⟨rfl, rfl⟩
        go_wp2
        go_ret2
        exact finp_no HR.out B3
      | true =>
        have hn := inB_iff.1 e3
        obtain ⟨m, rfl⟩ := Int.eq_ofNat_of_zero_le (show 0 ≤ n by omega)
        have hok := okS_iff.1 e2
        have HOK := Lib.hid (okSrc_iff.1 e1)
        obtain ⟨R, hR⟩ : ∃ R, mapR src m 0 (⟨a, b, c, d⟩ : St) [] = R := ⟨_, rfl⟩
        have HR := Lib.hid (show mapF a b c d src (m : Int) = R by simp [mapF, e1, e2, e3, hR])
        have HG := Lib.hid hR
        have HBD := Lib.hid hok.1
        have HDT := Lib.hid hok.2
        clear hR hok
        have E1 := Lib.hid e1
        clear e1
        have E2 := Lib.hid e2
        clear e2
        have E3 := Lib.hid e3
        clear e3
        go_enter Tryz.func15, Tryz.ntmps15
        go_wp2_with fail
        have B1 : Bl w ((w.alloc (.cells #[.int .i64 a, .int .i64 b, .int .i64 c, .int .i64 d] 40)).alloc (.cells #[.slice ah src.H.length ch, .slice ap src.P.length cp, .slice ag src.G.length cg] 29)) := (bl_alloc (bl_alloc (bl_refl _) _) _)
        have xS_1 : Bx ((w.alloc (.cells #[.int .i64 a, .int .i64 b, .int .i64 c, .int .i64 d] 40)).alloc (.cells #[.slice ah src.H.length ch, .slice ap src.P.length cp, .slice ag src.G.length cg] 29)) (w.heap.size) #[.int .i64 a, .int .i64 b, .int .i64 c, .int .i64 d] := ((Bx.new (b := w.heap.size) _ #[.int .i64 a, .int .i64 b, .int .i64 c, .int .i64 d] 40 (by first | rfl | simp)).alloc _)
        have xX_1 : Bx ((w.alloc (.cells #[.int .i64 a, .int .i64 b, .int .i64 c, .int .i64 d] 40)).alloc (.cells #[.slice ah src.H.length ch, .slice ap src.P.length cp, .slice ag src.G.length cg] 29)) (w.heap.size + 1) #[.slice ah src.H.length ch, .slice ap src.P.length cp, .slice ag src.G.length cg] := (Bx.new (b := w.heap.size + 1) _ #[.slice ah src.H.length ch, .slice ap src.P.length cp, .slice ag src.G.length cg] 29 (by first | rfl | simp))
        have zz1 : w.heap.size + 2 ≤ ((w.alloc (.cells #[.int .i64 a, .int .i64 b, .int .i64 c, .int .i64 d] 40)).alloc (.cells #[.slice ah src.H.length ch, .slice ap src.P.length cp, .slice ag src.G.length cg] 29)).heap.size := (by simp)
        generalize ((w.alloc (.cells #[.int .i64 a, .int .i64 b, .int .i64 c, .int .i64 d] 40)).alloc (.cells #[.slice ah src.H.length ch, .slice ap src.P.length cp, .slice ag src.G.length cg] 29)) = w1 at *
        obtain ⟨cS_1, fS_1, zS_1⟩ := xS_1.out
        obtain ⟨cX_1, fX_1, zX_1⟩ := xX_1.out
        refine (ivalid_eq E1.out _ (HS.out.below B1)).mono ?_
        rintro e w2 ⟨rfl, hb2⟩
        have B2 : Bl w w2 := bl_call B1 hb2
        have xS_2 : Bx w2 (w.heap.size) #[.int .i64 a, .int .i64 b, .int .i64 c, .int .i64 d] := xS_1.below hb2
        have xX_2 : Bx w2 (w.heap.size + 1) #[.slice ah src.H.length ch, .slice ap src.P.length cp, .slice ag src.G.length cg] := xX_1.below hb2
        clear cS_1 fS_1 zS_1 cX_1 fX_1 zX_1
        obtain ⟨cS_2, fS_2, zS_2⟩ := xS_2.out
        obtain ⟨cX_2, fX_2, zX_2⟩ := xX_2.out
        go_wp2_with fail
        refine (iokS_eqM (s := (⟨a, b, c, d⟩ : St)) E2.out _).mono ?_
        rintro e w3 ⟨rfl, hb3⟩
        have B3 : Bl w w3 := bl_call B2 hb3
        have xS_3 : Bx w3 (w.heap.size) #[.int .i64 a, .int .i64 b, .int .i64 c, .int .i64 d] := xS_2.below hb3
        have xX_3 : Bx w3 (w.heap.size + 1) #[.slice ah src.H.length ch, .slice ap src.P.length cp, .slice ag src.G.length cg] := xX_2.below hb3
        clear cS_2 fS_2 zS_2 cX_2 fX_2 zX_2
        obtain ⟨cS_3, fS_3, zS_3⟩ := xS_3.out
        obtain ⟨cX_3, fX_3, zX_3⟩ := xX_3.out
        go_wp2_with fail
        refine (inB_eqS E3.out _).mono ?_
        rintro e w9 ⟨rfl, rfl⟩
        go_wp2_with fail
        have B4 : Bl w (w3.alloc (.cells #[.int .i64 a, .int .i64 b, .int .i64 c, .int .i64 d, .bool false, .slice none 0 0] 82)) := (bl_alloc B3 _)
        have xS_4 : Bx (w3.alloc (.cells #[.int .i64 a, .int .i64 b, .int .i64 c, .int .i64 d, .bool false, .slice none 0 0] 82)) (w.heap.size) #[.int .i64 a, .int .i64 b, .int .i64 c, .int .i64 d] := (xS_3.alloc _)
        have xX_4 : Bx (w3.alloc (.cells #[.int .i64 a, .int .i64 b, .int .i64 c, .int .i64 d, .bool false, .slice none 0 0] 82)) (w.heap.size + 1) #[.slice ah src.H.length ch, .slice ap src.P.length cp, .slice ag src.G.length cg] := (xX_3.alloc _)
        have xM_4 : Bx (w3.alloc (.cells #[.int .i64 a, .int .i64 b, .int .i64 c, .int .i64 d, .bool false, .slice none 0 0] 82)) (w3.heap.size) #[.int .i64 a, .int .i64 b, .int .i64 c, .int .i64 d, .bool false, .slice none 0 0] := (Bx.new (b := w3.heap.size) _ #[.int .i64 a, .int .i64 b, .int .i64 c, .int .i64 d, .bool false, .slice none 0 0] 82 (by first | rfl | simp))
        have zz4 : w3.heap.size + 1 ≤ (w3.alloc (.cells #[.int .i64 a, .int .i64 b, .int .i64 c, .int .i64 d, .bool false, .slice none 0 0] 82)).heap.size := (by simp)
        clear cS_3 fS_3 zS_3 cX_3 fX_3 zX_3
        generalize (w3.alloc (.cells #[.int .i64 a, .int .i64 b, .int .i64 c, .int .i64 d, .bool false, .slice none 0 0] 82)) = w4 at *
        obtain ⟨cS_4, fS_4, zS_4⟩ := xS_4.out
        obtain ⟨cX_4, fX_4, zX_4⟩ := xX_4.out
        obtain ⟨cM_4, fM_4, zM_4⟩ := xM_4.out
        have hWs := B4.size
        have hXM : w.heap.size + 1 ≠ w3.heap.size := by have := xX_3.out.2.2; omega
        have hMs := B3.size
        clear cS_4 fS_4 zS_4 cX_4 fX_4 zX_4 cM_4 fM_4 zM_4
        go_loopw [9, 10, 11] (fun s9 _ _ wr => ∃ (k : Nat) (s1 : St) (o1 : List Int) (v1 : Value), s9 = .int .i64 k ∧ k ≤ 1000 ∧ Bx wr (w3.heap.size) #[.int .i64 s1.a, .int .i64 s1.b, .int .i64 s1.c, .int .i64 s1.d, .bool false, v1] ∧ Bx wr (w.heap.size + 1) #[.slice ah src.H.length ch, .slice ap src.P.length cp, .slice ag src.G.length cg] ∧ Own wr w.heap.size v1 o1 ∧ Hid (mapR src m k s1 o1 = R) ∧ Hid (bdS s1 = true) ∧ Hid (Det s1) ∧ Hid (EmJ s1 o1) ∧ Hid (k = 0 → o1 = []) ∧ Hid (∀ j, j + 1 = k → (termP src j).2 = true) ∧ o1.length < m ∧ Hid (v1.ownBlock ≠ some (w3.heap.size)) ∧ Hid (v1.ownBlock ≠ some (w.heap.size + 1)) ∧ Bl w wr) (fun s9 _ _ _ => 1001 - (intOf s9).toNat)
        case atStart => exact ⟨0, (⟨a, b, c, d⟩ : St), [], _, rfl, by omega, xM_4, xX_4, Own.nil _ _, HG, HBD, HDT, Lib.hid (EmJ.nil _), Lib.hid (fun _ => rfl), Lib.hid (fun j hj => absurd hj (by omega)), by simp; omega, Lib.hid (by simp [Value.ownBlock]), Lib.hid (by simp [Value.ownBlock]), B4⟩
        case round =>
          obtain ⟨k, s1, o1, v1, rfl, hk, x1, y1, h1, HE, HBB, HDD, HJ, H0, HT0, hlm, HNE, HNX, Br⟩ := hrel
          have HO := Lib.hid h1
          have hl1 := HJ.out.len
          obtain ⟨oa, oc, rfl, _⟩ := h1.form
          clear h1
          have hBs := Br.size
          obtain ⟨c1, f1, z1⟩ := x1.out
          obtain ⟨d1, g1, u1⟩ := y1.out
          obtain ⟨t, bk, hT⟩ : ∃ t b, termP src k = (t, b) := ⟨_, _, rfl⟩
          have HT := Lib.hid hT
          go_wp2_with fail
          have HH := iterm_eq HT.out _ (HS.out.below Br) HOK.out.okPer hk
          refine HH.mono ?_
          clear HH
          rintro e w2 ⟨rfl, hb2⟩
          have x2 := x1.below hb2
          have y2 := y1.below hb2
          have HO2 := Lib.hid (HO.out.below hb2)
          have B2 : Bl w w2 := bl_call Br hb2
          have h2s := B2.size
          clear c1 f1 z1 d1 g1 u1
          obtain ⟨c2, f2, z2⟩ := x2.out
          obtain ⟨d2, g2, u2⟩ := y2.out
          cases bk with
          | false =>
            have hk9 : k < 1000 := by
              refine Nat.lt_of_le_of_ne hk (fun e => ?_)
              have h2 := term_no HOK.out (by rw [← e, hT])
              have h3 := HT0.out 999 (by omega)
              rw [h2] at h3
              cases h3
            have HE2 := Lib.hid (show R = endC (endF s1 o1) m by rw [← HE.out, map_end hk9 (by rw [hT])])
            clear hT
            go_wp2_with fail
            have HH := iend_any x2 HO2.out h2s HNE.out HBB.out hl1 HJ.out.bds
            refine HH.mono ?_
            clear HH
            rintro e w5 hE
            obtain ⟨y, yn, yc, rfl, hy, hU⟩ := hE
            have B5 : Bl w w5 := bl_upv B2 hU (by omega) (fun k hk => (HO2.out.lt k hk).1)
            have HY := Lib.hid (hy.mono h2s)
            clear c2 f2 z2 d2 g2 u2
            by_cases hc : (endF s1 o1).2 = 0
            · have cz : ((endF s1 o1).2 != 0) = false := by simp [hc]
              have HR3 := Lib.hid (show mapF a b c d src (m : Int) = ((endF s1 o1).1.take m, 0) by rw [HR.out, HE2.out, endC_ok hc])
              have HLE := Lib.hid (endF_len s1 o1)
              obtain ⟨l, hl9⟩ : ∃ l, (endF s1 o1).1 = l := ⟨_, rfl⟩
              rw [hl9] at hy HR3 HLE HY
              obtain ⟨a9, c9, he9, hc9⟩ := hy.form
              simp only [Value.slice.injEq] at he9
              obtain ⟨rfl, rfl, rfl⟩ := he9
              clear hl9 hy
              have hlen := HLE.out
              have HYl := HY.out.sl
              rcases HY.out.1.2 with ⟨hv, hnil⟩ | ⟨gg, cap, cur, hv, hrest⟩
              · simp only [Value.slice.injEq] at hv
                obtain ⟨rfl, hz0, rfl⟩ := hv
                have HZ := Lib.hid (show l = [] from List.eq_nil_of_length_eq_zero hnil)
                have hmin1 : ¬ (m : Int) < (l.length : Int) := by omega
                have hmin2 : ¬ m < l.length := by omega
                have hl0 : l.length = 0 := hnil
                clear hnil hz0
                go_wp2
                go_ret2
                refine finp_yes HR3.out (Nat.le_refl _) (x := none) (n := 0) (k := 0) ?_ B5
                rw [HZ.out, List.take_nil]; exact Own.nil _ _
              · simp only [Value.slice.injEq] at hv
                obtain ⟨rfl, _, rfl⟩ := hv
                clear hrest
                by_cases hmin : m < l.length
                · have hmin1 : (m : Int) < (l.length : Int) := by omega
                  have hc0 : ¬ yc = 0 := by omega
                  go_wp2
                  go_ret2
                  exact finp_yes HR3.out (Nat.le_refl _) (own_take HY.out (by omega) (by simp)) B5
                · have hmin1 : ¬ (m : Int) < (l.length : Int) := by omega
                  have HTK := Lib.hid (show l.take m = l from List.take_of_length_le (by omega))
                  go_wp2
                  go_ret2
                  refine finp_yes HR3.out (Nat.le_refl _) ?_ B5
                  rw [HTK.out]; exact HY.out
            · have cz : ((endF s1 o1).2 != 0) = true := by simp [hc]
              have HR3 := Lib.hid (show mapF a b c d src (m : Int) = ([], (endF s1 o1).2) by rw [HR.out, HE2.out, endC_bad hc])
              clear hc hy
              go_wp2
              go_ret2
              exact finp_no HR3.out B5
          | true =>
            by_cases hk1 : k = 1000
            · have ck : ((k : Int) == 1000) = true := by simp; omega
              have HR3 := Lib.hid (show mapF a b c d src (m : Int) = ([], 10) by rw [HR.out, ← HE.out, map_open hk1])
              clear hT
              go_wp2
              go_ret2
              exact finp_no HR3.out B2
            · have ck : ((k : Int) == 1000) = false := by rw [beq_eq_false_iff_ne]; omega
              have hk9 : k < 1000 := by omega
              have htk := term_ok HOK.out hT
              clear hk1
              by_cases ht : t ≤ 1000000000
              · have ct : decide ((1000000000 : Int) < t) = false := decide_eq_false (by omega)
                have ct2 : ¬ (1000000000 : Int) < t := by omega
                have htb : -1000000000 ≤ t ∧ t ≤ 1000000000 := ⟨htk.1, ht⟩
                have HTL := Lib.hid (show o1 = [] ∨ 1 ≤ t by
                  rcases Nat.eq_zero_or_pos k with e | e
                  · exact .inl (H0.out e)
                  · exact .inr (htk.2 e))
                clear hT
                go_wp2_with fail
                refine (ifed_any s1 t _ HBB.out htb).mono ?_
                rintro e w3 ⟨rfl, hb3⟩
                have x3 := x2.below hb3
                have y3 := y2.below hb3
                have HO3 := Lib.hid (HO2.out.below hb3)
                have B3 : Bl w w3 := bl_call B2 hb3
                have h3s := B3.size
                clear c2 f2 z2 d2 g2 u2
                obtain ⟨c3, f3, z3⟩ := x3.out
                go_wp2_with fail
                refine (iset_any (s' := fedF s1 t) x3 (.inr (HDD.out.fed t))).mono ?_
                rintro e w4 ⟨rfl, x4, hu4⟩
                have HO4 := Lib.hid (HO3.out.upd hu4 HNE.out)
                have y4 := y3.upd hu4 hXM
                have B4 := bl_upd B3 hu4 (by omega)
                have h4s := B4.size
                clear c3 f3 z3
                obtain ⟨c4, f4, z4⟩ := x4.out
                cases h6 : bdS (fedF s1 t) with
                | false =>
                  have HR3 := Lib.hid (show mapF a b c d src (m : Int) = ([], 5) by rw [HR.out, ← HE.out, map_unb hk9 HT.out ht h6])
                  clear h6
                  go_wp2
                  go_ret2
                  exact finp_no HR3.out B4
                | true =>
                  have H6 := Lib.hid h6
                  clear h6
                  go_wp2_with fail
                  have HH := iemit_any (s := fedF s1 t) (lo := false) (most := m) x4 HO4.out h4s HNE.out H6.out (.inr (HDD.out.fed t)) hl1 (by omega)
                  refine HH.mono ?_
                  clear HH
                  rintro e w5 hE
                  cases hem : emitF m (fedF s1 t) o1 with
                  | none =>
                    have HR3 := Lib.hid (show mapF a b c d src (m : Int) = ([], 5) by rw [HR.out, ← HE.out, map_none hk9 HT.out ht H6.out hem])
                    rw [hem] at hE
                    clear hem
                    obtain ⟨hU5, rfl⟩ := hE
                    have B5 := bl_upv B4 hU5 (by omega) (fun k hk => (HO4.out.lt k hk).1)
                    clear c4 f4 z4
                    go_wp2
                    go_ret2
                    exact finp_no HR3.out B5
                  | some r =>
                    obtain ⟨s2, o2⟩ := r
                    have hEC := emitC (by omega) (by omega) H6.out (HJ.out.fed HTL.out) (HDD.out.fed t) hem
                    have HEM := Lib.hid hem
                    rw [hem] at hE
                    clear hem
                    obtain ⟨hU5, rfl, v2, x5, ho5, hr5⟩ := hE
                    have y5 := y4.upv hU5 hXM HNX.out
                    have B5 := bl_upv B4 hU5 (by omega) (fun k hk => (HO4.out.lt k hk).1)
                    have HNE5 := Lib.hid (own_ne hr5 HNE.out z4)
                    have HNX5 := Lib.hid (own_ne hr5 HNX.out y4.out.2.2)
                    obtain ⟨va, vc, rfl, _⟩ := ho5.form
                    have HO5 := Lib.hid ho5
                    clear c4 f4 z4 ho5 hr5
                    obtain ⟨c5, f5, z5⟩ := x5.out
                    have hl2 := hEC.1
                    by_cases hm : m ≤ o2.length
                    · have cm : ((o2.length : Int) == (m : Int)) = true := by simp; omega
                      have HR3 := Lib.hid (show mapF a b c d src (m : Int) = (o2, 0) by rw [HR.out, ← HE.out, map_full hk9 HT.out ht H6.out HEM.out hm])
                      clear hEC
                      go_wp2_with fail
                      refine (lsize_any _ _ _ _ (by omega)).mono ?_
                      rintro e w9 ⟨rfl, rfl⟩
                      go_wp2
                      go_ret2
                      exact finp_yes HR3.out (Nat.le_refl _) HO5.out B5
                    · have cm : ((o2.length : Int) == (m : Int)) = false := by rw [beq_eq_false_iff_ne]; omega
                      have HIN := Lib.hid (hEC.2 (by omega))
                      have HE2 := Lib.hid (show mapR src m (k + 1) s2 o2 = R by rw [← map_on hk9 HT.out ht H6.out HEM.out hm]; exact HE.out)
                      have HT1 := Lib.hid (show ∀ j, j + 1 = k + 1 → (termP src j).2 = true from fun j hj => by rw [show j = k by omega, HT.out])
                      clear hEC
                      go_wp2_with fail
                      refine (lsize_any _ _ _ _ (by omega)).mono ?_
                      rintro e w9 ⟨rfl, rfl⟩
                      go_wp2
                      go_roundw
                      case rel => exact ⟨k + 1, s2, o2, _, by go_num, by omega, x5, y5, HO5.out, HE2, Lib.hid HIN.out.1, Lib.hid HIN.out.2.2, Lib.hid HIN.out.2.1, Lib.hid (fun q => absurd q (by omega)), HT1, by omega, HNE5, HNX5, B5⟩
                      case measure => simp only [intOf, Int.toNat_natCast]; omega
              · have ct : decide ((1000000000 : Int) < t) = true := decide_eq_true (by omega)
                have ct2 : (1000000000 : Int) < t := by omega
                have HR3 := Lib.hid (show mapF a b c d src (m : Int) = ([], 5) by rw [HR.out, ← HE.out, map_big hk9 HT.out ht])
                clear hT
                go_wp2
                go_ret2
                exact finp_no HR3.out B2

end Go.Proofs.YtgkelemfbmmgnaaGreat

