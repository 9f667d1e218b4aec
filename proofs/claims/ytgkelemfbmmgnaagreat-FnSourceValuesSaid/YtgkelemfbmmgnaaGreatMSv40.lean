/- Some of the texts of this claim, joined in one file: MapS. -/
import Derived.Test.YtgkelemfbmmgnaaGreatMSv39
/- MapSource: the reference. Each theorem names its conditions. -/
namespace Go.Proofs.YtgkelemfbmmgnaaGreat
open Go.RowKit
set_option linter.unusedVariables false
set_option linter.unusedSimpArgs false


theorem mapR_len (src : Src) (m k : Nat) (s : St) (out : List Int) (hl : out.length ≤ 60) : (mapR src m k s out).1.length ≤ 1048576 := by
  have key : ∀ f k s out, out.length ≤ 60 → (mapN src m f k s out).1.length ≤ 1048576 := by
    intro f
    induction f with
    | zero => intro k s out _; simp [mapN]
    | succ f ih =>
      intro k s out hl
      rw [mapN]
      split
      · split
        · split
          · split
            · simp
            · rename_i r hr
              have h2 := (emit_keeps (fun _ => True) (fun _ _ _ => trivial) hl trivial (s' := r.1) (out' := r.2) hr).2.1
              split
              · show r.2.length ≤ 1048576
                omega
              · exact ih _ _ _ h2
          · simp
        · simp
      · unfold endC
        split
        · have := endF_len s out
          show ((endF s out).1.take m).length ≤ 1048576
          rw [List.length_take]
          omega
        · simp
  exact key _ k s out hl
theorem mapF_len (a b c d : Int) (src : Src) (n : Int) : (mapF a b c d src n).1.length ≤ 1048576 := by
  unfold mapF
  split
  · split
    · exact mapR_len _ _ _ _ _ (by simp)
    · simp
  · simp
theorem sterm_eq {h p g : Value} {src : Src} {k b0 : Nat} {t : Int} {b : Bool} (hT : termP src k = (t, b)) (w : World) (ha : SlS w h p g src) (hx : Bx w b0 #[h, p, g]) (ok : OkPer src) (hk : k ≤ 1000) :
    Calls Tryz.prog 53 #[.pointer (some ⟨b0, 0, none⟩), .int .i64 (k : Int)] w fun e w' => e = .returned (.tuple #[.int .i64 t, .bool b]) ∧ Bl w w' :=
  (sterm_any h p g src k w b0 ha hx ok (by omega) (by omega)).mono fun _ _ q => ⟨by rw [q.1, Int.toNat_natCast, hT], q.2⟩
theorem svalid_eq {h p g : Value} {src : Src} {b0 : Nat} {b : Bool} (hb : okSrc src = b) (w : World) (ha : SlS w h p g src) (hx : Bx w b0 #[h, p, g]) : Calls Tryz.prog 36 #[.pointer (some ⟨b0, 0, none⟩)] w fun e w' => e = .returned (.bool b) ∧ Bl w w' := hb ▸ svalid_any h p g src w b0 ha hx
theorem sokS_eqM {s : St} {b : Bool} (h : okS s = b) (w : World) : Calls Tryz.prog 52 #[.agg #[.int .i64 s.a, .int .i64 s.b, .int .i64 s.c, .int .i64 s.d]] w fun e w' => e = .returned (.bool b) ∧ Bl w w' := h ▸ sok_any s w
theorem sfits_eqM {s : St} {b : Bool} (h : bdS s = b) (w : World) : Calls Tryz.prog 56 #[.agg #[.int .i64 s.a, .int .i64 s.b, .int .i64 s.c, .int .i64 s.d]] w fun e w' => e = .returned (.bool b) ∧ Bl w w' := h ▸ sfits_any s w
theorem sem_eqM {s : St} {q : Int} {b : Bool} (h : bdS (emF s q) = b) (w : World) (e : bdS s = true) (hq : -1000000000 ≤ q ∧ q ≤ 1000000000) : Calls Tryz.prog 58 #[.agg #[.int .i64 s.a, .int .i64 s.b, .int .i64 s.c, .int .i64 s.d], .int .i64 q] w fun e w' => e = .returned (.tuple #[.agg #[.int .i64 (emF s q).a, .int .i64 (emF s q).b, .int .i64 (emF s q).c, .int .i64 (emF s q).d], .bool b]) ∧ Bl w w' := h ▸ sem_any s q w e hq
theorem sin_eqM {n lo hi : Int} {b : Bool} (h : inB n lo hi = b) (w : World) : Calls Tryz.prog 42 #[.int .i64 n, .int .i64 lo, .int .i64 hi] w fun e w' => e = .returned (.bool b) ∧ w = w' := h ▸ in_any n lo hi w
theorem own_madeM (X : World) {B k : Nat} (hk : k = X.heap.size) (hB : B ≤ X.heap.size) : Own (X.alloc (.cells #[] 2)) B (.slice (some ⟨k, 0, none⟩) 0 0) [] := by subst hk; exact own_made X hB
theorem Bx.congM {w : World} {b : Nat} {cs cs' : Array Value} (h : Bx w b cs) (e : cs = cs') : Bx w b cs' := e ▸ h
/-- How an emission with a count may stand: it has failed at the last term, or ahead of it. -/
def Failed (m : Nat) (R2 : Option (St × List Int)) (o2 : List Int) : Prop := (o2.length = m ∧ ∃ s', R2 = some (s', o2)) ∨ (o2.length < m ∧ R2 = none)

set_option maxRecDepth 100000 in
set_option maxHeartbeats 12800000 in
theorem spec_MapSource (a b c d : Int) (h p g : Value) (src : Src) (n : Int) (w : World) (hs : SlS w h p g src) :
    Calls Tryz.prog 16 #[.agg #[.int .i64 a, .int .i64 b, .int .i64 c, .int .i64 d], .agg #[h, p, g], .int .i64 n] w (FinP (mapF a b c d src n) w) := by
  have HS := Lib.hid hs
  obtain ⟨ah, ch, rfl, _⟩ := hs.1.form
  obtain ⟨ap, cp, rfl, _⟩ := hs.2.1.form
  obtain ⟨ag, cg, rfl, _⟩ := hs.2.2.form
  clear hs
  cases e1 : okS (⟨a, b, c, d⟩ : St) with
  | false =>
    have HR := Lib.hid (show mapF a b c d src n = ([], 1) by simp [mapF, e1])
    have E1 := Lib.hid e1
    clear e1
    go_enter Tryz.func16, Tryz.ntmps16
    go_wp2_with fail
    have Bs1 : Bl w ((w.alloc (.cells #[.int .i64 a, .int .i64 b, .int .i64 c, .int .i64 d] 40)).alloc (.cells #[.slice ah src.H.length ch, .slice ap src.P.length cp, .slice ag src.G.length cg] 29)) := (bl_alloc (bl_alloc (bl_refl _) _) _)
    have xS_s1 : Bx ((w.alloc (.cells #[.int .i64 a, .int .i64 b, .int .i64 c, .int .i64 d] 40)).alloc (.cells #[.slice ah src.H.length ch, .slice ap src.P.length cp, .slice ag src.G.length cg] 29)) (w.heap.size) #[.int .i64 a, .int .i64 b, .int .i64 c, .int .i64 d] := ((Bx.new (b := w.heap.size) _ #[.int .i64 a, .int .i64 b, .int .i64 c, .int .i64 d] 40 (by first | rfl | simp)).alloc _)
    have xX_s1 : Bx ((w.alloc (.cells #[.int .i64 a, .int .i64 b, .int .i64 c, .int .i64 d] 40)).alloc (.cells #[.slice ah src.H.length ch, .slice ap src.P.length cp, .slice ag src.G.length cg] 29)) (w.heap.size + 1) #[.slice ah src.H.length ch, .slice ap src.P.length cp, .slice ag src.G.length cg] := (Bx.new (b := w.heap.size + 1) _ #[.slice ah src.H.length ch, .slice ap src.P.length cp, .slice ag src.G.length cg] 29 (by first | rfl | simp))
    have zzs1 : w.heap.size + 2 ≤ ((w.alloc (.cells #[.int .i64 a, .int .i64 b, .int .i64 c, .int .i64 d] 40)).alloc (.cells #[.slice ah src.H.length ch, .slice ap src.P.length cp, .slice ag src.G.length cg] 29)).heap.size := (by simp)
    generalize ((w.alloc (.cells #[.int .i64 a, .int .i64 b, .int .i64 c, .int .i64 d] 40)).alloc (.cells #[.slice ah src.H.length ch, .slice ap src.P.length cp, .slice ag src.G.length cg] 29)) = ws1 at *
    obtain ⟨cS_s1, fS_s1, zS_s1⟩ := xS_s1.out
    obtain ⟨cX_s1, fX_s1, zX_s1⟩ := xX_s1.out
    refine (sokS_eqM (s := (⟨a, b, c, d⟩ : St)) E1.out _).mono ?_
    rintro e ws2 ⟨rfl, hbs2⟩
    have Bs2 : Bl w ws2 := bl_call Bs1 hbs2
    have xS_s2 : Bx ws2 (w.heap.size) #[.int .i64 a, .int .i64 b, .int .i64 c, .int .i64 d] := xS_s1.below hbs2
    have xX_s2 : Bx ws2 (w.heap.size + 1) #[.slice ah src.H.length ch, .slice ap src.P.length cp, .slice ag src.G.length cg] := xX_s1.below hbs2
    clear cS_s1 fS_s1 zS_s1 cX_s1 fX_s1 zX_s1
    obtain ⟨cS_s2, fS_s2, zS_s2⟩ := xS_s2.out
    obtain ⟨cX_s2, fX_s2, zX_s2⟩ := xX_s2.out
    go_wp2
    go_ret2
    exact finp_no HR.out Bs2
  | true =>
    cases e2 : okSrc src with
    | false =>
      have HR := Lib.hid (show mapF a b c d src n = ([], 1) by simp [mapF, e1, e2])
      have E1 := Lib.hid e1
      clear e1
      have E2 := Lib.hid e2
      clear e2
      go_enter Tryz.func16, Tryz.ntmps16
      go_wp2_with fail
      have Bs1 : Bl w ((w.alloc (.cells #[.int .i64 a, .int .i64 b, .int .i64 c, .int .i64 d] 40)).alloc (.cells #[.slice ah src.H.length ch, .slice ap src.P.length cp, .slice ag src.G.length cg] 29)) := (bl_alloc (bl_alloc (bl_refl _) _) _)
      have xS_s1 : Bx ((w.alloc (.cells #[.int .i64 a, .int .i64 b, .int .i64 c, .int .i64 d] 40)).alloc (.cells #[.slice ah src.H.length ch, .slice ap src.P.length cp, .slice ag src.G.length cg] 29)) (w.heap.size) #[.int .i64 a, .int .i64 b, .int .i64 c, .int .i64 d] := ((Bx.new (b := w.heap.size) _ #[.int .i64 a, .int .i64 b, .int .i64 c, .int .i64 d] 40 (by first | rfl | simp)).alloc _)
      have xX_s1 : Bx ((w.alloc (.cells #[.int .i64 a, .int .i64 b, .int .i64 c, .int .i64 d] 40)).alloc (.cells #[.slice ah src.H.length ch, .slice ap src.P.length cp, .slice ag src.G.length cg] 29)) (w.heap.size + 1) #[.slice ah src.H.length ch, .slice ap src.P.length cp, .slice ag src.G.length cg] := (Bx.new (b := w.heap.size + 1) _ #[.slice ah src.H.length ch, .slice ap src.P.length cp, .slice ag src.G.length cg] 29 (by first | rfl | simp))
      have zzs1 : w.heap.size + 2 ≤ ((w.alloc (.cells #[.int .i64 a, .int .i64 b, .int .i64 c, .int .i64 d] 40)).alloc (.cells #[.slice ah src.H.length ch, .slice ap src.P.length cp, .slice ag src.G.length cg] 29)).heap.size := (by simp)
      generalize ((w.alloc (.cells #[.int .i64 a, .int .i64 b, .int .i64 c, .int .i64 d] 40)).alloc (.cells #[.slice ah src.H.length ch, .slice ap src.P.length cp, .slice ag src.G.length cg] 29)) = ws1 at *
      obtain ⟨cS_s1, fS_s1, zS_s1⟩ := xS_s1.out
      obtain ⟨cX_s1, fX_s1, zX_s1⟩ := xX_s1.out
      refine (sokS_eqM (s := (⟨a, b, c, d⟩ : St)) E1.out _).mono ?_
      rintro e ws2 ⟨rfl, hbs2⟩
      have Bs2 : Bl w ws2 := bl_call Bs1 hbs2
      have xS_s2 : Bx ws2 (w.heap.size) #[.int .i64 a, .int .i64 b, .int .i64 c, .int .i64 d] := xS_s1.below hbs2
      have xX_s2 : Bx ws2 (w.heap.size + 1) #[.slice ah src.H.length ch, .slice ap src.P.length cp, .slice ag src.G.length cg] := xX_s1.below hbs2
      clear cS_s1 fS_s1 zS_s1 cX_s1 fX_s1 zX_s1
      obtain ⟨cS_s2, fS_s2, zS_s2⟩ := xS_s2.out
      obtain ⟨cX_s2, fX_s2, zX_s2⟩ := xX_s2.out
      go_wp2_with fail
      refine (svalid_eq E2.out _ (HS.out.below Bs2) xX_s2).mono ?_
      rintro e ws3 ⟨rfl, hbs3⟩
      have Bs3 : Bl w ws3 := bl_call Bs2 hbs3
      have xS_s3 : Bx ws3 (w.heap.size) #[.int .i64 a, .int .i64 b, .int .i64 c, .int .i64 d] := xS_s2.below hbs3
      have xX_s3 : Bx ws3 (w.heap.size + 1) #[.slice ah src.H.length ch, .slice ap src.P.length cp, .slice ag src.G.length cg] := xX_s2.below hbs3
      clear cS_s2 fS_s2 zS_s2 cX_s2 fX_s2 zX_s2
      obtain ⟨cS_s3, fS_s3, zS_s3⟩ := xS_s3.out
      obtain ⟨cX_s3, fX_s3, zX_s3⟩ := xX_s3.out
      go_wp2
      go_ret2
      exact finp_no HR.out Bs3
    | true =>
      cases e3 : inB n 1 60 with
      | false =>
        have HR := Lib.hid (show mapF a b c d src n = ([], 2) by simp [mapF, e1, e2, e3])
        have E1 := Lib.hid e1
        clear e1
        have E2 := Lib.hid e2
        clear e2
        have E3 := Lib.hid e3
        clear e3
        go_enter Tryz.func16, Tryz.ntmps16
        go_wp2_with fail
        have Bs1 : Bl w ((w.alloc (.cells #[.int .i64 a, .int .i64 b, .int .i64 c, .int .i64 d] 40)).alloc (.cells #[.slice ah src.H.length ch, .slice ap src.P.length cp, .slice ag src.G.length cg] 29)) := (bl_alloc (bl_alloc (bl_refl _) _) _)
        have xS_s1 : Bx ((w.alloc (.cells #[.int .i64 a, .int .i64 b, .int .i64 c, .int .i64 d] 40)).alloc (.cells #[.slice ah src.H.length ch, .slice ap src.P.length cp, .slice ag src.G.length cg] 29)) (w.heap.size) #[.int .i64 a, .int .i64 b, .int .i64 c, .int .i64 d] := ((Bx.new (b := w.heap.size) _ #[.int .i64 a, .int .i64 b, .int .i64 c, .int .i64 d] 40 (by first | rfl | simp)).alloc _)
        have xX_s1 : Bx ((w.alloc (.cells #[.int .i64 a, .int .i64 b, .int .i64 c, .int .i64 d] 40)).alloc (.cells #[.slice ah src.H.length ch, .slice ap src.P.length cp, .slice ag src.G.length cg] 29)) (w.heap.size + 1) #[.slice ah src.H.length ch, .slice ap src.P.length cp, .slice ag src.G.length cg] := (Bx.new (b := w.heap.size + 1) _ #[.slice ah src.H.length ch, .slice ap src.P.length cp, .slice ag src.G.length cg] 29 (by first | rfl | simp))
        have zzs1 : w.heap.size + 2 ≤ ((w.alloc (.cells #[.int .i64 a, .int .i64 b, .int .i64 c, .int .i64 d] 40)).alloc (.cells #[.slice ah src.H.length ch, .slice ap src.P.length cp, .slice ag src.G.length cg] 29)).heap.size := (by simp)
        generalize ((w.alloc (.cells #[.int .i64 a, .int .i64 b, .int .i64 c, .int .i64 d] 40)).alloc (.cells #[.slice ah src.H.length ch, .slice ap src.P.length cp, .slice ag src.G.length cg] 29)) = ws1 at *
        obtain ⟨cS_s1, fS_s1, zS_s1⟩ := xS_s1.out
        obtain ⟨cX_s1, fX_s1, zX_s1⟩ := xX_s1.out
        refine (sokS_eqM (s := (⟨a, b, c, d⟩ : St)) E1.out _).mono ?_
        rintro e ws2 ⟨rfl, hbs2⟩
        have Bs2 : Bl w ws2 := bl_call Bs1 hbs2
        have xS_s2 : Bx ws2 (w.heap.size) #[.int .i64 a, .int .i64 b, .int .i64 c, .int .i64 d] := xS_s1.below hbs2
        have xX_s2 : Bx ws2 (w.heap.size + 1) #[.slice ah src.H.length ch, .slice ap src.P.length cp, .slice ag src.G.length cg] := xX_s1.below hbs2
        clear cS_s1 fS_s1 zS_s1 cX_s1 fX_s1 zX_s1
        obtain ⟨cS_s2, fS_s2, zS_s2⟩ := xS_s2.out
        obtain ⟨cX_s2, fX_s2, zX_s2⟩ := xX_s2.out
        go_wp2_with fail
        refine (svalid_eq E2.out _ (HS.out.below Bs2) xX_s2).mono ?_
        rintro e ws3 ⟨rfl, hbs3⟩
        have Bs3 : Bl w ws3 := bl_call Bs2 hbs3
        have xS_s3 : Bx ws3 (w.heap.size) #[.int .i64 a, .int .i64 b, .int .i64 c, .int .i64 d] := xS_s2.below hbs3
        have xX_s3 : Bx ws3 (w.heap.size + 1) #[.slice ah src.H.length ch, .slice ap src.P.length cp, .slice ag src.G.length cg] := xX_s2.below hbs3
        clear cS_s2 fS_s2 zS_s2 cX_s2 fX_s2 zX_s2
        obtain ⟨cS_s3, fS_s3, zS_s3⟩ := xS_s3.out
        obtain ⟨cX_s3, fX_s3, zX_s3⟩ := xX_s3.out
        go_wp2_with fail
        refine (sin_eqM E3.out _).mono ?_
        rintro e w9 ⟨rfl, rfl⟩
        go_wp2
        go_ret2
        exact finp_no HR.out Bs3
      | true =>
        have hn := inB_iff.1 e3
        obtain ⟨m, rfl⟩ := Int.eq_ofNat_of_zero_le (show 0 ≤ n by omega)
        have hok := okS_iff.1 e1
        have HOK := Lib.hid (okSrc_iff.1 e2)
        obtain ⟨R, hR⟩ : ∃ R, mapR src m 0 (⟨a, b, c, d⟩ : St) [] = R := ⟨_, rfl⟩
        have HR := Lib.hid (show mapF a b c d src (m : Int) = R by simp [mapF, e1, e2, e3, hR])
        have HG := Lib.hid hR
        have HBD := Lib.hid hok.1
        have HDT := Lib.hid hok.2
        clear hR hok
        have E1 := Lib.hid e1
        clear e1
        have E2 := Lib.hid e2
        clear e2
        have E3 := Lib.hid e3
        clear e3
        go_enter Tryz.func16, Tryz.ntmps16
        go_wp2_with fail
        have Bs1 : Bl w ((w.alloc (.cells #[.int .i64 a, .int .i64 b, .int .i64 c, .int .i64 d] 40)).alloc (.cells #[.slice ah src.H.length ch, .slice ap src.P.length cp, .slice ag src.G.length cg] 29)) := (bl_alloc (bl_alloc (bl_refl _) _) _)
        have xS_s1 : Bx ((w.alloc (.cells #[.int .i64 a, .int .i64 b, .int .i64 c, .int .i64 d] 40)).alloc (.cells #[.slice ah src.H.length ch, .slice ap src.P.length cp, .slice ag src.G.length cg] 29)) (w.heap.size) #[.int .i64 a, .int .i64 b, .int .i64 c, .int .i64 d] := ((Bx.new (b := w.heap.size) _ #[.int .i64 a, .int .i64 b, .int .i64 c, .int .i64 d] 40 (by first | rfl | simp)).alloc _)
        have xX_s1 : Bx ((w.alloc (.cells #[.int .i64 a, .int .i64 b, .int .i64 c, .int .i64 d] 40)).alloc (.cells #[.slice ah src.H.length ch, .slice ap src.P.length cp, .slice ag src.G.length cg] 29)) (w.heap.size + 1) #[.slice ah src.H.length ch, .slice ap src.P.length cp, .slice ag src.G.length cg] := (Bx.new (b := w.heap.size + 1) _ #[.slice ah src.H.length ch, .slice ap src.P.length cp, .slice ag src.G.length cg] 29 (by first | rfl | simp))
        have zzs1 : w.heap.size + 2 ≤ ((w.alloc (.cells #[.int .i64 a, .int .i64 b, .int .i64 c, .int .i64 d] 40)).alloc (.cells #[.slice ah src.H.length ch, .slice ap src.P.length cp, .slice ag src.G.length cg] 29)).heap.size := (by simp)
        generalize ((w.alloc (.cells #[.int .i64 a, .int .i64 b, .int .i64 c, .int .i64 d] 40)).alloc (.cells #[.slice ah src.H.length ch, .slice ap src.P.length cp, .slice ag src.G.length cg] 29)) = ws1 at *
        obtain ⟨cS_s1, fS_s1, zS_s1⟩ := xS_s1.out
        obtain ⟨cX_s1, fX_s1, zX_s1⟩ := xX_s1.out
        refine (sokS_eqM (s := (⟨a, b, c, d⟩ : St)) E1.out _).mono ?_
        rintro e ws2 ⟨rfl, hbs2⟩
        have Bs2 : Bl w ws2 := bl_call Bs1 hbs2
        have xS_s2 : Bx ws2 (w.heap.size) #[.int .i64 a, .int .i64 b, .int .i64 c, .int .i64 d] := xS_s1.below hbs2
        have xX_s2 : Bx ws2 (w.heap.size + 1) #[.slice ah src.H.length ch, .slice ap src.P.length cp, .slice ag src.G.length cg] := xX_s1.below hbs2
        clear cS_s1 fS_s1 zS_s1 cX_s1 fX_s1 zX_s1
        obtain ⟨cS_s2, fS_s2, zS_s2⟩ := xS_s2.out
        obtain ⟨cX_s2, fX_s2, zX_s2⟩ := xX_s2.out
        go_wp2_with fail
        refine (svalid_eq E2.out _ (HS.out.below Bs2) xX_s2).mono ?_
        rintro e ws3 ⟨rfl, hbs3⟩
        have Bs3 : Bl w ws3 := bl_call Bs2 hbs3
        have xS_s3 : Bx ws3 (w.heap.size) #[.int .i64 a, .int .i64 b, .int .i64 c, .int .i64 d] := xS_s2.below hbs3
        have xX_s3 : Bx ws3 (w.heap.size + 1) #[.slice ah src.H.length ch, .slice ap src.P.length cp, .slice ag src.G.length cg] := xX_s2.below hbs3
        clear cS_s2 fS_s2 zS_s2 cX_s2 fX_s2 zX_s2
        obtain ⟨cS_s3, fS_s3, zS_s3⟩ := xS_s3.out
        obtain ⟨cX_s3, fX_s3, zX_s3⟩ := xX_s3.out
        go_wp2_with fail
        refine (sin_eqM E3.out _).mono ?_
        rintro e w9 ⟨rfl, rfl⟩
        have hWs := Bs3.size
        have hXM : w.heap.size + 1 ≠ ws3.heap.size + 1 := by have := xX_s3.out.2.2; omega
        have yX : Bx ((ws3.alloc (.cells #[] 2)).alloc (.cells #[.int .i64 a, .int .i64 b, .int .i64 c, .int .i64 d, .slice (some ⟨ws3.heap.size, 0, none⟩) 0 0, .int .i64 0] 90)) (w.heap.size + 1) #[.slice ah src.H.length ch, .slice ap src.P.length cp, .slice ag src.G.length cg] := (xX_s3.alloc _).alloc _
        go_wp2_with fail
        clear cS_s3 fS_s3 zS_s3 cX_s3 fX_s3 zX_s3
        go_loopw [9, 10] (fun s9 s10 wr => ∃ k : Nat, s9 = .bool false ∧ s10 = .int .i64 k ∧ k ≤ 1000 ∧ Bx wr (w.heap.size + 1) #[.slice ah src.H.length ch, .slice ap src.P.length cp, .slice ag src.G.length cg] ∧ ((∃ (s1 : St) (o1 : List Int) (v1 : Value), Bx wr (ws3.heap.size + 1) #[.int .i64 s1.a, .int .i64 s1.b, .int .i64 s1.c, .int .i64 s1.d, v1, .int .i64 0] ∧ Own wr w.heap.size v1 o1 ∧ Hid (mapR src m k s1 o1 = R) ∧ Hid (bdS s1 = true) ∧ Hid (Det s1) ∧ Hid (EmJ s1 o1) ∧ Hid (k = 0 → o1 = []) ∧ Hid (∀ j, j + 1 = k → (termP src j).2 = true) ∧ o1.length < m ∧ Hid (v1.ownBlock ≠ some (ws3.heap.size + 1)) ∧ Hid (v1.ownBlock ≠ some (w.heap.size + 1))) ∨ (Hid (R = ([], 5)) ∧ ∃ (s1 : St) (v1 : Value), Bx wr (ws3.heap.size + 1) #[.int .i64 s1.a, .int .i64 s1.b, .int .i64 s1.c, .int .i64 s1.d, v1, .int .i64 5])) ∧ Bl w wr) (fun _ s10 _ => 1001 - (intOf s10).toNat)
        case atStart => exact ⟨0, rfl, rfl, by omega, yX, .inl ⟨(⟨a, b, c, d⟩ : St), [], _, Bx.new (b := ws3.heap.size + 1) (ws3.alloc (.cells #[] 2)) #[.int .i64 a, .int .i64 b, .int .i64 c, .int .i64 d, .slice (some ⟨ws3.heap.size, 0, none⟩) 0 0, .int .i64 0] 90 (by first | rfl | simp), (own_madeM ws3 (B := w.heap.size) (k := ws3.heap.size) rfl hWs).alloc _, HG, HBD, HDT, Lib.hid (EmJ.nil _), Lib.hid (fun _ => rfl), Lib.hid (fun j hj => absurd hj (by omega)), by simp; omega, Lib.hid (by simp [Value.ownBlock]), Lib.hid (by have := xX_s3.out.2.2; simp [Value.ownBlock]; omega)⟩, bl_alloc (bl_alloc Bs3 _) _⟩
        case round =>
          obtain ⟨k, rfl, rfl, hk, y1, hor, Br⟩ := hrel
          have hBs := Br.size
          obtain ⟨d1, g1, u1⟩ := y1.out
          rcases hor with ⟨s1, o1, v1, x1, h1, HE, HBB, HDD, HJ, H0, HT0, hlm, HNE, HNX⟩ | ⟨HRB, s1, v1, x1⟩
          case inr =>
            obtain ⟨c1, f1, z1⟩ := x1.out
            have HR3 := Lib.hid (show mapF a b c d src (m : Int) = ([], 5) by rw [HR.out, HRB.out])
            by_cases hk9 : k < 1000
            · have hkI : (k : Int) < 1000 := by omega
              go_wp2
              go_quiet (fail)
              go_wp2
              go_ret2
              exact finp_no HR3.out (bl_dN Br _)
            · have hkI : ¬ (k : Int) < 1000 := by omega
              go_wp2
              go_quiet (fail)
              go_wp2
              go_ret2
              exact finp_no HR3.out (bl_dN Br _)
          have HO := Lib.hid h1
          have hl1 := HJ.out.len
          obtain ⟨oa, oc, rfl, _⟩ := h1.form
          clear h1
          obtain ⟨c1, f1, z1⟩ := x1.out
          by_cases hk9 : k < 1000
          case neg =>
            have hkI : ¬ (k : Int) < 1000 := by omega
            have HR3 := Lib.hid (show mapF a b c d src (m : Int) = ([], 10) by rw [HR.out, ← HE.out, map_open (by omega)])
            go_wp2
            go_ret2
            exact finp_no HR3.out Br
          have hkI : (k : Int) < 1000 := by omega
          obtain ⟨t, bk, hT⟩ : ∃ t b, termP src k = (t, b) := ⟨_, _, rfl⟩
          have HT := Lib.hid hT
          go_wp2_with fail
          have HH := sterm_eq HT.out _ (HS.out.below Br) y1 HOK.out.okPer hk
          refine HH.mono ?_
          clear HH
          rintro e w2 ⟨rfl, hb2⟩
          have x2 := x1.below hb2
          have y2 := y1.below hb2
          have HO2 := Lib.hid (HO.out.below hb2)
          have B2 : Bl w w2 := bl_call Br hb2
          have h2s := B2.size
          clear c1 f1 z1 d1 g1 u1
          obtain ⟨c2, f2, z2⟩ := x2.out
          obtain ⟨d2, g2, u2⟩ := y2.out
          cases bk with
          | false =>
            have HE2 := Lib.hid (show R = endC (endF s1 o1) m by rw [← HE.out, map_end hk9 (by rw [hT])])
            clear hT
            go_wp2_with fail
            have HH := send_any x2 HO2.out h2s HNE.out HBB.out hl1 HJ.out.bds (fun q r => (run_short HJ.out q r).1)
            refine HH.mono ?_
            clear HH
            rintro e w5 ⟨rfl, hU, v5, x5, h5⟩
            have B5 : Bl w w5 := bl_upv B2 hU (by omega) (fun k hk => (HO2.out.lt k hk).1)
            clear c2 f2 z2 d2 g2 u2
            obtain ⟨c5, f5, z5⟩ := x5.out
            by_cases hc : (endF s1 o1).2 = 0
            · obtain ⟨y, yn, yc, rfl, hy⟩ := h5 hc
              have cz : ((endF s1 o1).2 != 0) = false := by simp [hc]
              have HR3 := Lib.hid (show mapF a b c d src (m : Int) = ((endF s1 o1).1.take m, 0) by rw [HR.out, HE2.out, endC_ok hc])
              have HLE := Lib.hid (endF_len s1 o1)
              have HY := Lib.hid (hy.mono h2s)
              obtain ⟨l, hl9⟩ : ∃ l, (endF s1 o1).1 = l := ⟨_, rfl⟩
              rw [hl9] at hy HR3 HLE HY
              obtain ⟨a9, c9, he9, hc9⟩ := hy.form
              simp only [Value.slice.injEq] at he9
              obtain ⟨rfl, rfl, rfl⟩ := he9
              clear hl9 hy h5
              have hlen := HLE.out
              by_cases hmin : m < l.length
              · have hmin1 : (m : Int) < (l.length : Int) := by omega
                rcases HY.out.1.2 with ⟨hv, hnil⟩ | ⟨gg, cap, cur, hv, hrest⟩
                · rw [hnil] at hmin; omega
                · simp only [Value.slice.injEq] at hv
                  obtain ⟨rfl, _, rfl⟩ := hv
                  clear hrest
                  have hc0 : ¬ yc = 0 := by omega
                  go_wp2
                  go_ret2
                  exact finp_yes HR3.out (Nat.le_refl _) (own_take HY.out (by omega) (by simp)) B5
              · have hmin1 : ¬ (m : Int) < (l.length : Int) := by omega
                have HTK := Lib.hid (show l.take m = l from List.take_of_length_le (by omega))
                go_wp2
                go_ret2
                refine finp_yes HR3.out (Nat.le_refl _) ?_ B5
                rw [HTK.out]; exact HY.out
            · have cz : ((endF s1 o1).2 != 0) = true := by simp [hc]
              have HR3 := Lib.hid (show mapF a b c d src (m : Int) = ([], (endF s1 o1).2) by rw [HR.out, HE2.out, endC_bad hc])
              clear hc h5
              go_wp2
              go_quiet (fail)
              go_wp2
              go_ret2
              exact finp_no HR3.out (bl_dN B5 _)
          | true =>
            have htk := term_ok HOK.out hT
            cases ht : inB t (-1000000000) 1000000000 with
            | false =>
              have HTI := Lib.hid ht
              have hnt : ¬ t ≤ 1000000000 := fun q => by rw [inB_iff.2 ⟨htk.1, q⟩] at ht; cases ht
              have HR3 := Lib.hid (show mapF a b c d src (m : Int) = ([], 5) by rw [HR.out, ← HE.out, map_big hk9 HT.out hnt])
              clear hT ht hnt
              go_wp2_with fail
              refine (sin_eqM HTI.out _).mono ?_
              rintro e w9 ⟨rfl, rfl⟩
              go_wp2
              go_quiet (fail)
              go_wp2
              go_ret2
              refine finp_no HR3.out (bl_dN (bl_upd B2 (upd_set (upd_refl _ (ws3.heap.size + 1)) 5 (.int .i64 5)) (by omega)) _)
            | true =>
              have HTI := Lib.hid ht
              have htb := inB_iff.1 ht
              have HTL := Lib.hid (show o1 = [] ∨ 1 ≤ t by
                rcases Nat.eq_zero_or_pos k with e | e
                · exact .inl (H0.out e)
                · exact .inr (htk.2 e))
              clear hT ht
              go_wp2_with fail
              refine (sin_eqM HTI.out _).mono ?_
              rintro e w9 ⟨rfl, rfl⟩
              go_wp2_with fail
              refine (sfed_any s1 t _ HBB.out htb).mono ?_
              rintro e w3 ⟨rfl, hb3⟩
              have x3 := x2.below hb3
              have y3 := y2.below hb3
              have HO3 := Lib.hid (HO2.out.below hb3)
              have B3 : Bl w w3 := bl_call B2 hb3
              have h3s := B3.size
              clear c2 f2 z2 d2 g2 u2
              go_wp2_with fail
              have xN : Bx (w3.alloc (.cells #[.int .i64 (fedF s1 t).a, .int .i64 (fedF s1 t).b, .int .i64 (fedF s1 t).c, .int .i64 (fedF s1 t).d] 40)) w3.heap.size #[.int .i64 (fedF s1 t).a, .int .i64 (fedF s1 t).b, .int .i64 (fedF s1 t).c, .int .i64 (fedF s1 t).d] := Bx.new (b := w3.heap.size) _ _ _ rfl
              have x4 := x3.alloc (.cells #[.int .i64 (fedF s1 t).a, .int .i64 (fedF s1 t).b, .int .i64 (fedF s1 t).c, .int .i64 (fedF s1 t).d] 40)
              have y4 := y3.alloc (.cells #[.int .i64 (fedF s1 t).a, .int .i64 (fedF s1 t).b, .int .i64 (fedF s1 t).c, .int .i64 (fedF s1 t).d] 40)
              have HO4 := Lib.hid (HO3.out.alloc (.cells #[.int .i64 (fedF s1 t).a, .int .i64 (fedF s1 t).b, .int .i64 (fedF s1 t).c, .int .i64 (fedF s1 t).d] 40))
              have B4 := bl_alloc B3 (.cells #[.int .i64 (fedF s1 t).a, .int .i64 (fedF s1 t).b, .int .i64 (fedF s1 t).c, .int .i64 (fedF s1 t).d] 40)
              have z34 : w3.heap.size < (w3.alloc (.cells #[.int .i64 (fedF s1 t).a, .int .i64 (fedF s1 t).b, .int .i64 (fedF s1 t).c, .int .i64 (fedF s1 t).d] 40)).heap.size := by simp
              have hxN : ws3.heap.size + 1 ≠ w3.heap.size := by have := x3.out.2.2; omega
              generalize w3.alloc (.cells #[.int .i64 (fedF s1 t).a, .int .i64 (fedF s1 t).b, .int .i64 (fedF s1 t).c, .int .i64 (fedF s1 t).d] 40) = w4 at *
              obtain ⟨c4, f4, z4⟩ := x4.out
              obtain ⟨cN, fN, zN⟩ := xN.out
              cases h6 : bdS (fedF s1 t) with
              | false =>
                have H6 := Lib.hid h6
                have HR3 := Lib.hid (show mapF a b c d src (m : Int) = ([], 5) by rw [HR.out, ← HE.out, map_unb hk9 HT.out htb.2 h6])
                clear h6
                refine (sfits_eqM H6.out _).mono ?_
                rintro e w5 ⟨rfl, hb5⟩
                have x5 := x4.below hb5
                have B5 : Bl w w5 := bl_call B4 hb5
                have h5s := B5.size
                clear c4 f4 z4 cN fN zN
                obtain ⟨c5, f5, z5⟩ := x5.out
                go_wp2
                go_quiet (fail)
                go_wp2
                go_ret2
                refine finp_no HR3.out (bl_dN (bl_upd B5 (upd_set (upd_refl _ (ws3.heap.size + 1)) 5 (.int .i64 5)) (by omega)) _)
              | true =>
                have H6 := Lib.hid h6
                clear h6
                refine (sfits_eqM H6.out _).mono ?_
                rintro e w5 ⟨rfl, hb5⟩
                have x5 := x4.below hb5
                have y5 := y4.below hb5
                have xN5 := xN.below hb5
                have HO5 := Lib.hid (HO4.out.below hb5)
                have B5 : Bl w w5 := bl_call B4 hb5
                clear c4 f4 z4 cN fN zN
                obtain ⟨c5, f5, z5⟩ := x5.out
                obtain ⟨cN5, fN5, zN5⟩ := xN5.out
                have uW := (upd_set (upd_set (upd_set (upd_set (upd_refl w5 (ws3.heap.size + 1)) 0 (.int .i64 (fedF s1 t).a)) 1 (.int .i64 (fedF s1 t).b)) 2 (.int .i64 (fedF s1 t).c)) 3 (.int .i64 (fedF s1 t).d))
                have xW := Bx.congM (((((x5.set 0 (.int .i64 (fedF s1 t).a)).set 1 (.int .i64 (fedF s1 t).b)).set 2 (.int .i64 (fedF s1 t).c)).set 3 (.int .i64 (fedF s1 t).d))) (show _ = #[.int .i64 (fedF s1 t).a, .int .i64 (fedF s1 t).b, .int .i64 (fedF s1 t).c, .int .i64 (fedF s1 t).d, .slice oa o1.length oc, .int .i64 0] by simp)
                have yW := y5.upd uW hXM
                have HOW := Lib.hid (HO5.out.upd uW HNE.out)
                have BW := bl_upd B5 uW (by omega)
                go_wp2_with fail
                clear c5 f5 z5 cN5 fN5 zN5 xN xN5
                generalize ((((w5.setCell ⟨ws3.heap.size + 1, 0, none⟩ (.int .i64 (fedF s1 t).a)).setCell ⟨ws3.heap.size + 1, 1, none⟩ (.int .i64 (fedF s1 t).b)).setCell ⟨ws3.heap.size + 1, 2, none⟩ (.int .i64 (fedF s1 t).c)).setCell ⟨ws3.heap.size + 1, 3, none⟩ (.int .i64 (fedF s1 t).d)) = w6 at *
                obtain ⟨R2, hR2⟩ : ∃ R2, emitF m (fedF s1 t) o1 = R2 := ⟨_, rfl⟩
                have HR2 := Lib.hid hR2
                clear hR2
                have h6s := BW.size
                go_loopg [14, 15, 16, 17] (m + 1 - o1.length) (fun n _ _ _ _ wr => Bx wr (w.heap.size + 1) #[.slice ah src.H.length ch, .slice ap src.P.length cp, .slice ag src.G.length cg] ∧ Bl w wr ∧ ((∃ (s2 : St) (o2 : List Int) (v2 : Value), Bx wr (ws3.heap.size + 1) #[.int .i64 s2.a, .int .i64 s2.b, .int .i64 s2.c, .int .i64 s2.d, v2, .int .i64 0] ∧ Own wr w.heap.size v2 o2 ∧ Hid (emitF m s2 o2 = R2) ∧ Hid (bdS s2 = true) ∧ o2.length ≤ m ∧ n + o2.length = m + 1 ∧ Hid (v2.ownBlock ≠ some (ws3.heap.size + 1)) ∧ Hid (v2.ownBlock ≠ some (w.heap.size + 1))) ∨ (∃ (s2 : St) (o2 : List Int) (v2 : Value), Bx wr (ws3.heap.size + 1) #[.int .i64 s2.a, .int .i64 s2.b, .int .i64 s2.c, .int .i64 s2.d, v2, .int .i64 5] ∧ Own wr w.heap.size v2 o2 ∧ Hid (Failed m R2 o2) ∧ o2.length ≤ m)))
                case atStart => exact ⟨yW, BW, .inl ⟨fedF s1 t, o1, _, xW, HOW.out, HR2, H6, by omega, by omega, HNE, HNX⟩⟩
                case round =>
                  obtain ⟨y7, B7, hor⟩ := hrel
                  have h7s := B7.size
                  rcases hor with ⟨s2, o2, v2, x7, ho7, HE7, HB7, hl7, hn7, HN7, HM7⟩ | ⟨s2, o2, v2, x7, ho7, HF7, hl7⟩
                  case inr =>
                    have HO7 := Lib.hid ho7
                    obtain ⟨va, vc, rfl, _⟩ := ho7.form
                    clear ho7
                    obtain ⟨c7, f7, z7⟩ := x7.out
                    rcases HF7.out with ⟨q1, s', q2⟩ | ⟨q1, q2⟩
                    · have hm1 : ¬ (o2.length : Int) < (m : Int) := by omega
                      have hm2 : ¬ o2.length < m := by omega
                      have hm3 : m ≤ o2.length := by omega
                      have HR3 := Lib.hid (show mapF a b c d src (m : Int) = (o2, 0) by rw [HR.out, ← HE.out, map_full hk9 HT.out htb.2 H6.out (HR2.out.trans q2) hm3])
                      clear q1 q2
                      go_wp2
                      go_ret2
                      exact finp_yes HR3.out (Nat.le_refl _) HO7.out B7
                    · have hm1 : (o2.length : Int) < (m : Int) := by omega
                      have hm3 : ¬ m ≤ o2.length := by omega
                      have HRB := Lib.hid (show R = ([], 5) by rw [← HE.out, map_none hk9 HT.out htb.2 H6.out (HR2.out.trans q2)])
                      clear q2
                      go_wp2
                      go_roundw
                      case rel => exact ⟨k + 1, rfl, by go_num, by omega, y7, .inr ⟨HRB, s2, _, x7⟩, B7⟩
                      case measure => simp only [intOf, Int.toNat_natCast]; omega
                  have HO7 := Lib.hid ho7
                  have HGN := Lib.hid hn7
                  obtain ⟨va, vc, rfl, _⟩ := ho7.form
                  clear ho7 hn7
                  obtain ⟨c7, f7, z7⟩ := x7.out
                  by_cases hm0 : o2.length < m
                  case neg =>
                    have hm1 : ¬ (o2.length : Int) < (m : Int) := by omega
                    have hm3 : m ≤ o2.length := by omega
                    have HR3 := Lib.hid (show mapF a b c d src (m : Int) = (o2, 0) by rw [HR.out, ← HE.out, map_full hk9 HT.out htb.2 H6.out (HR2.out.trans (by rw [← HE7.out, emit_most (by omega) hm3])) hm3])
                    go_wp2
                    go_ret2
                    exact finp_yes HR3.out (Nat.le_refl _) HO7.out B7
                  have hm1 : (o2.length : Int) < (m : Int) := by omega
                  have hm3 : ¬ m ≤ o2.length := by omega
                  have hb := bdS_iff.1 HB7.out
                  go_wp2_with fail
                  refine (sknow_any s2.a s2.b s2.c s2.d _ hb.1 hb.2.1 hb.2.2.1 hb.2.2.2).mono ?_
                  rintro e w8 ⟨v, rfl, hkn, hb8⟩
                  have x8 := x7.below hb8
                  have y8 := y7.below hb8
                  have HO8 := Lib.hid (HO7.out.below hb8)
                  have B8 : Bl w w8 := bl_call B7 hb8
                  have h8s := B8.size
                  clear c7 f7 z7
                  obtain ⟨c8, f8, z8⟩ := x8.out
                  cases hq : knF s2 with
                  | none =>
                    rw [show knV s2.a s2.b s2.c s2.d = none from hq] at hkn
                    obtain ⟨q, rfl⟩ := hkn
                    have HEM := Lib.hid (show emitF m (fedF s1 t) o1 = some (s2, o2) by rw [HR2.out, ← HE7.out, emit_none (by omega) hq])
                    have hEC := emitC (by omega) (by omega) H6.out (HJ.out.fed HTL.out) (HDD.out.fed t) HEM.out
                    have HIN := Lib.hid (hEC.2 hm0)
                    have HE2 := Lib.hid (show mapR src m (k + 1) s2 o2 = R by rw [← map_on hk9 HT.out htb.2 H6.out HEM.out hm3]; exact HE.out)
                    have HT1 := Lib.hid (show ∀ j, j + 1 = k + 1 → (termP src j).2 = true from fun j hj => by rw [show j = k by omega, HT.out])
                    clear hq hEC
                    go_wp2
                    go_roundw
                    case rel => exact ⟨k + 1, rfl, by go_num, by omega, y8, .inl ⟨s2, o2, _, x8, HO8.out, HE2, Lib.hid HIN.out.1, Lib.hid HIN.out.2.2, Lib.hid HIN.out.2.1, Lib.hid (fun q => absurd q (by omega)), HT1, hm0, HN7, HM7⟩, B8⟩
                    case measure => simp only [intOf, Int.toNat_natCast]; omega
                  | some q =>
                    rw [show knV s2.a s2.b s2.c s2.d = some q from hq] at hkn
                    have hkn : v = _ := hkn
                    subst hkn
                    have hqb := kn_bd HB7.out hq
                    have HQ := Lib.hid hq
                    clear hq
                    go_wp2_with (at_builtin; refine wpList_append_one rfl _ _ rfl w.heap.size _ o2 (by rfl) HO8.out q (by unfold R64; omega) (by first | rfl | simp [Act.eval]) (by omega) (by omega) ?_; intro v' wn ho hg hloc; obtain ⟨a1, n1, rfl, _⟩ := ho.form; have xN := x8.grownApartF hg (fun q => HN7.out q); have yN := y8.grownApartF hg (fun q => HM7.out q); have hgs := hg.size; have BN : Bl w wn := bl_grown B8 hg (fun k hk => (HO8.out.lt k hk).1); clear c8 f8 z8; obtain ⟨cN, fN, zN⟩ := xN.out)
                    have hlen : (o2 ++ [q]).length = o2.length + 1 := by simp
                    rw [hlen] at ho hloc
                    clear hlen
                    have HO9 := Lib.hid ho
                    have hPM8 := x8.out.2.2
                    have hPX8 := y8.out.2.2
                    have HNE3 := Lib.hid (show (Value.slice a1 (o2.length + 1) n1).ownBlock ≠ some (ws3.heap.size + 1) by
                      rcases hloc with e | e
                      · rw [e]; exact HN7.out
                      · rw [e]; intro q; injection q with q; omega)
                    have HNX3 := Lib.hid (show (Value.slice a1 (o2.length + 1) n1).ownBlock ≠ some (w.heap.size + 1) by
                      rcases hloc with e | e
                      · rw [e]; exact HM7.out
                      · rw [e]; intro q; injection q with q; omega)
                    clear hg hloc ho
                    have uS := upd_set (upd_refl wn (ws3.heap.size + 1)) 4 (.slice a1 (o2.length + 1) n1)
                    have xS := Bx.congM (xN.set 4 (.slice a1 (o2.length + 1) n1)) (show _ = #[.int .i64 s2.a, .int .i64 s2.b, .int .i64 s2.c, .int .i64 s2.d, .slice a1 (o2.length + 1) n1, .int .i64 0] by simp)
                    have yS := yN.upd uS hXM
                    have HOS := Lib.hid (HO9.out.upd uS HNE3.out)
                    have BS := bl_upd BN uS (by omega)
                    cases hb9 : bdS (emF s2 q) with
                    | true =>
                      have E9 := Lib.hid hb9
                      have HE9 := Lib.hid (show emitF m (emF s2 q) (o2 ++ [q]) = R2 by rw [← emit_step (by omega) hm0 HQ.out hb9]; exact HE7.out)
                      clear hb9
                      go_wp2_with fail
                      have HH := sem_eqM E9.out (wn.setCell ⟨ws3.heap.size + 1, 4, none⟩ (.slice a1 (o2.length + 1) n1)) HB7.out hqb
                      refine HH.mono ?_
                      clear HH
                      rintro e wa ⟨rfl, hba⟩
                      have xa := xS.below hba
                      have ya := yS.below hba
                      have HOa := Lib.hid (HOS.out.below hba)
                      have Ba : Bl w wa := bl_call BS hba
                      have has := Ba.size
                      clear cN fN zN
                      obtain ⟨ca, fa, za⟩ := xa.out
                      have ub := (upd_set (upd_set (upd_set (upd_set (upd_refl wa (ws3.heap.size + 1)) 0 (.int .i64 (emF s2 q).a)) 1 (.int .i64 (emF s2 q).b)) 2 (.int .i64 (emF s2 q).c)) 3 (.int .i64 (emF s2 q).d))
                      have xb := (Bx.congM (((((xa.set 0 (.int .i64 (emF s2 q).a)).set 1 (.int .i64 (emF s2 q).b)).set 2 (.int .i64 (emF s2 q).c)).set 3 (.int .i64 (emF s2 q).d))) (show _ = #[.int .i64 (emF s2 q).a, .int .i64 (emF s2 q).b, .int .i64 (emF s2 q).c, .int .i64 (emF s2 q).d, .slice a1 (o2.length + 1) n1, .int .i64 0] by simp)).alloc (.cells #[.int .i64 (emF s2 q).a, .int .i64 (emF s2 q).b, .int .i64 (emF s2 q).c, .int .i64 (emF s2 q).d] 40)
                      have yb := (ya.upd ub hXM).alloc (.cells #[.int .i64 (emF s2 q).a, .int .i64 (emF s2 q).b, .int .i64 (emF s2 q).c, .int .i64 (emF s2 q).d] 40)
                      have HOb := Lib.hid ((HOa.out.upd ub HNE3.out).alloc (.cells #[.int .i64 (emF s2 q).a, .int .i64 (emF s2 q).b, .int .i64 (emF s2 q).c, .int .i64 (emF s2 q).d] 40))
                      have Bb := bl_alloc (bl_upd Ba ub (by omega)) (.cells #[.int .i64 (emF s2 q).a, .int .i64 (emF s2 q).b, .int .i64 (emF s2 q).c, .int .i64 (emF s2 q).d] 40)
                      go_wp2
                      go_roundg (gk - 1)
                      case measure => have := HGN.out; omega
                      case rel => exact ⟨yb, Bb, .inl ⟨emF s2 q, o2 ++ [q], _, xb, HOb.out, HE9, E9, by simp; omega, by have := HGN.out; simp; omega, HNE3, HNX3⟩⟩
                    | false =>
                      have E9 := Lib.hid hb9
                      have HF9 := Lib.hid (show Failed m R2 (o2 ++ [q]) by
                        by_cases hl9 : o2.length + 1 = m
                        · exact .inl ⟨by simp; omega, emF s2 q, by rw [← HE7.out, emit_last (by omega) hl9 HQ.out hb9]⟩
                        · exact .inr ⟨by simp; omega, by rw [← HE7.out, emit_big (by omega) (by omega) HQ.out hb9]⟩)
                      clear hb9
                      go_wp2_with fail
                      have HH := sem_eqM E9.out (wn.setCell ⟨ws3.heap.size + 1, 4, none⟩ (.slice a1 (o2.length + 1) n1)) HB7.out hqb
                      refine HH.mono ?_
                      clear HH
                      rintro e wa ⟨rfl, hba⟩
                      have xa := xS.below hba
                      have ya := yS.below hba
                      have HOa := Lib.hid (HOS.out.below hba)
                      have Ba : Bl w wa := bl_call BS hba
                      have has := Ba.size
                      clear cN fN zN
                      obtain ⟨ca, fa, za⟩ := xa.out
                      have ub := (upd_set (upd_set (upd_set (upd_set (upd_set (upd_refl wa (ws3.heap.size + 1)) 5 (.int .i64 5)) 0 (.int .i64 (emF s2 q).a)) 1 (.int .i64 (emF s2 q).b)) 2 (.int .i64 (emF s2 q).c)) 3 (.int .i64 (emF s2 q).d))
                      have xb := (Bx.congM ((((((xa.set 5 (.int .i64 5)).set 0 (.int .i64 (emF s2 q).a)).set 1 (.int .i64 (emF s2 q).b)).set 2 (.int .i64 (emF s2 q).c)).set 3 (.int .i64 (emF s2 q).d))) (show _ = #[.int .i64 (emF s2 q).a, .int .i64 (emF s2 q).b, .int .i64 (emF s2 q).c, .int .i64 (emF s2 q).d, .slice a1 (o2.length + 1) n1, .int .i64 5] by simp)).alloc (.cells #[.int .i64 (emF s2 q).a, .int .i64 (emF s2 q).b, .int .i64 (emF s2 q).c, .int .i64 (emF s2 q).d] 40)
                      have yb := (ya.upd ub hXM).alloc (.cells #[.int .i64 (emF s2 q).a, .int .i64 (emF s2 q).b, .int .i64 (emF s2 q).c, .int .i64 (emF s2 q).d] 40)
                      have HOb := Lib.hid ((HOa.out.upd ub HNE3.out).alloc (.cells #[.int .i64 (emF s2 q).a, .int .i64 (emF s2 q).b, .int .i64 (emF s2 q).c, .int .i64 (emF s2 q).d] 40))
                      have Bb := bl_alloc (bl_upd Ba ub (by omega)) (.cells #[.int .i64 (emF s2 q).a, .int .i64 (emF s2 q).b, .int .i64 (emF s2 q).c, .int .i64 (emF s2 q).d] 40)
                      go_wp2
                      go_roundg (gk - 1)
                      case measure => have := HGN.out; omega
                      case rel => exact ⟨yb, Bb, .inr ⟨emF s2 q, o2 ++ [q], _, xb, HOb.out, HF9, by simp; omega⟩⟩

end Go.Proofs.YtgkelemfbmmgnaaGreat

