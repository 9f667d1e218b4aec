/- FnStateRuns holds: the terms of a state are those of its value, and they come in order. Conditions: none. -/
import Derived.Test.YtgmofofokhlhnaaOpenB
import Derived.Test.YtgmofofokhlhnaaDraw
import Derived.Test.YtgmofofokhlhnaaSrW
namespace Go.Proofs.Ytgmofofokhlhnaa
open Go.RowKit Go.ChangeShapes Go.WideShapes Go.ChangeAt
set_option linter.unusedVariables false
set_option linter.unusedSimpArgs false

theorem run_eqL {a b c d k : Int} {xs l : List Int} {va : Value} (h : runF a b c d xs = (l, k)) (w : World) (ha : Sl w va xs) (hl : xs.length ≤ 1048576) :
    Calls Try.prog 40 #[.agg #[.int .i64 a, .int .i64 b, .int .i64 c, .int .i64 d], va] w fun e w' => ∃ x n c, e = .returned (.tuple #[.slice x n c, .int .i64 k]) ∧ Own w' w.heap.size (.slice x n c) l ∧ Bl w w' :=
  (impl_RunState a b c d va xs w ha hl).mono fun e w' ⟨x, n, c, h1, h2, h3⟩ => by
    rw [h] at h1 h2
    exact ⟨x, n, c, h1, h2, h3⟩
theorem need_eqL {a b c d m n k : Int} {xs : List Int} {va : Value} (h : fneedF a b c d xs m = (n, k)) (w : World) (ha : Sl w va xs) (hl : xs.length ≤ 1048576) :
    Calls Try.prog 42 #[.agg #[.int .i64 a, .int .i64 b, .int .i64 c, .int .i64 d], va, .int .i64 m] w fun e w' => e = .returned (.tuple #[.int .i64 n, .int .i64 k]) ∧ Bl w w' :=
  (impl_FeedsNeeded a b c d va xs m w ha hl).mono fun e w' q => by rw [h] at q; exact q
theorem same_eqL {va vb : Value} {xs : List Int} (w : World) (ha : Sl w va xs) (hb : Sl w vb xs) :
    Calls Try.prog 41 #[va, vb] w fun e w' => e = .returned (.bool true) ∧ Bl w w' :=
  (a2same_any va vb xs xs w ha hb).mono fun e w' q => ⟨by rw [q.1]; simp, q.2⟩
/-- What a loop over the numbers of terms meets. -/
inductive NdAt (a b c d : Int) (xs : List Int) (k : Nat) (l : Int) : Prop where
  | stop : fneedF a b c d xs k = (0, 3) → NdAt a b c d xs k l
  | on (n : Int) : fneedF a b c d xs k = (n, 0) → l ≤ n → n ≤ xs.length → 0 ≤ n → (k = 0 → n = 0) → NdAt a b c d xs k l
/-- What the loop knows. -/
def NdK (a b c d : Int) (xs : List Int) (k : Nat) (l : Int) : Prop := (k = 0 ∧ l = 0) ∨ (0 < k ∧ fneedF a b c d xs ((k : Int) - 1) = (l, 0))
theorem nd_at {a b c d l : Int} {xs : List Int} {k : Nat} (hs : okS ⟨a, b, c, d⟩ = true) (hx : termsP xs = true) (hr : ∃ r, runG xs ⟨a, b, c, d⟩ [] = some r) (hk : k ≤ 60) (h : NdK a b c d xs k l) : NdAt a b c d xs k l := by
  obtain ⟨r, hr⟩ := hr
  have e : ∀ m : Int, 0 ≤ m → m ≤ 60 → fneedF a b c d xs m = feedsG m xs 0 ⟨a, b, c, d⟩ [] := fun m h0 h1 => by
    rw [fneedF, if_pos hs, if_pos hx, if_pos (inB_iff.2 ⟨h0, h1⟩)]
  have ek := e k (by omega) (by omega)
  have bad : ∀ (ys : List Int) (n : Nat) (s : St) (out : List Int) (m : Int), (feedsG m ys n s out).2 = 3 → (feedsG m ys n s out).1 = 0 := by
    intro ys
    induction ys with
    | nil =>
      intro n s out m h
      rw [feedsG] at h ⊢
      split at h
      · rename_i g; rw [if_pos g]
      · simp at h
    | cons t ys ih =>
      intro n s out m h
      rw [feedsG] at h ⊢
      split at h
      · rename_i g
        rw [if_pos g]
        cases hf : feedR s out t with
        | none => rfl
        | some r1 =>
          rw [hf] at h
          exact ih _ _ _ _ h
      · simp at h
  rcases feeds_ok (m := (k : Int)) xs 0 ⟨a, b, c, d⟩ [] r hr with ⟨h1, h2, h3⟩ | h1
  · refine .on (feedsG (k : Int) xs 0 ⟨a, b, c, d⟩ []).1 (by rw [ek]; exact Prod.ext rfl h1) ?_ (by omega) (by omega) ?_
    · rcases h with ⟨_, rfl⟩ | ⟨g1, g2⟩
      · exact h2
      · rw [e _ (by omega) (by omega)] at g2
        have := (feeds_mono (m := (k : Int) - 1) (k := (k : Int)) (by omega) xs 0 ⟨a, b, c, d⟩ [] h1).2
        rw [g2] at this
        exact this
    · rintro rfl
      rw [feeds_done (by simp)]; try rfl
  · exact .stop (by rw [ek]; exact Prod.ext (bad _ _ _ _ _ h1) h1)

set_option maxRecDepth 100000 in
set_option maxHeartbeats 12800000 in
theorem lawStateRuns (v0 : Value) (x0 : List Int) (v1 : Value) (x1 : List Int) (w : World) (S0 : SlB w v0 x0) (S1 : SlB w v1 x1) :
    Calls Try.prog 5 #[v0, v1] w fun e w' => e = .returned (.bool true) ∧ Bl w w' := by
  have H0 := Lib.hid S0
  have H1 := Lib.hid S1
  obtain ⟨a0, c0, rfl, _⟩ := S0.form
  obtain ⟨a1, c1, rfl, _⟩ := S1.form
  clear S0 S1
  by_cases hl : 3000 < x0.length ∨ 3000 < x1.length
  · have hL := Lib.hid (decide_eq_true hl)
    clear hl
    go_enter Try.func5, Try.ntmps5
    go_wp2_with fail
    refine (a2long_any H0.out H1.out).mono ?_
    rintro e w9 ⟨rfl, rfl⟩
    rw [hL.out]
    go_wp2
    go_ret
    exact ⟨rfl, bl_refl _⟩
  · have hL := Lib.hid (decide_eq_false hl)
    have hl0 : x0.length ≤ 3000 := by omega
    have hl1 : x1.length ≤ 3000 := by omega
    clear hl
    go_enter Try.func5, Try.ntmps5
    go_wp2_with fail
    refine (a2long_any H0.out H1.out).mono ?_
    rintro e w9 ⟨rfl, rfl⟩
    rw [hL.out]
    go_wp2_with fail
    refine (a2state_any H0.out hl0).mono ?_
    rintro e w1 ⟨a, b, c, d, rfl, hs4, hok, hb1⟩
    have B1 : Bl w w1 := bl_call (bl_refl _) hb1
    have HOK := Lib.hid hok
    clear hok
    obtain ⟨ha, hb, hc, hd⟩ := hs4
    go_wp2_with fail
    have B2 : Bl w (w1.alloc (.cells #[.int .i64 a, .int .i64 b, .int .i64 c, .int .i64 d] 52)) := (bl_alloc B1 _)
    have xS_2 : Bx (w1.alloc (.cells #[.int .i64 a, .int .i64 b, .int .i64 c, .int .i64 d] 52)) (w1.heap.size) #[.int .i64 a, .int .i64 b, .int .i64 c, .int .i64 d] := (Bx.new (b := w1.heap.size) _ #[.int .i64 a, .int .i64 b, .int .i64 c, .int .i64 d] 52 (by first | rfl | simp))
    have zz2 : w1.heap.size + 1 ≤ (w1.alloc (.cells #[.int .i64 a, .int .i64 b, .int .i64 c, .int .i64 d] 52)).heap.size := (by simp)
    generalize (w1.alloc (.cells #[.int .i64 a, .int .i64 b, .int .i64 c, .int .i64 d] 52)) = w2 at *
    obtain ⟨cS_2, fS_2, zS_2⟩ := xS_2.out
    refine (a2frac_any (H1.out.below B2) hl1).mono ?_
    rintro e w3 ⟨N, D, n2, d2, n3, d3, rfl, hq1, hq2, hq3, hb3⟩
    have B3 : Bl w w3 := bl_call B2 hb3
    have xS_3 : Bx w3 (w1.heap.size) #[.int .i64 a, .int .i64 b, .int .i64 c, .int .i64 d] := xS_2.below hb3
    clear cS_2 fS_2 zS_2
    obtain ⟨cS_3, fS_3, zS_3⟩ := xS_3.out
    obtain ⟨hg, hD, hN⟩ := hq1
    clear hq2 hq3
    have HX := Lib.hid (show okF N D = true from okF_iff.2 ⟨by omega, by omega, hg⟩)
    clear hg
    go_wp2_with fail
    have B4 : Bl w (((w3.alloc (.cells #[.int .i64 N, .int .i64 D] 55)).alloc (.cells #[.int .i64 n2, .int .i64 d2] 55)).alloc (.cells #[.int .i64 n3, .int .i64 d3] 55)) := (bl_alloc (bl_alloc (bl_alloc B3 _) _) _)
    have xS_4 : Bx (((w3.alloc (.cells #[.int .i64 N, .int .i64 D] 55)).alloc (.cells #[.int .i64 n2, .int .i64 d2] 55)).alloc (.cells #[.int .i64 n3, .int .i64 d3] 55)) (w1.heap.size) #[.int .i64 a, .int .i64 b, .int .i64 c, .int .i64 d] := (((xS_3.alloc _).alloc _).alloc _)
    have xX_4 : Bx (((w3.alloc (.cells #[.int .i64 N, .int .i64 D] 55)).alloc (.cells #[.int .i64 n2, .int .i64 d2] 55)).alloc (.cells #[.int .i64 n3, .int .i64 d3] 55)) (w3.heap.size) #[.int .i64 N, .int .i64 D] := (((Bx.new (b := w3.heap.size) _ #[.int .i64 N, .int .i64 D] 55 (by first | rfl | simp)).alloc _).alloc _)
    have xY_4 : Bx (((w3.alloc (.cells #[.int .i64 N, .int .i64 D] 55)).alloc (.cells #[.int .i64 n2, .int .i64 d2] 55)).alloc (.cells #[.int .i64 n3, .int .i64 d3] 55)) (w3.heap.size + 1) #[.int .i64 n2, .int .i64 d2] := ((Bx.new (b := w3.heap.size + 1) _ #[.int .i64 n2, .int .i64 d2] 55 (by first | rfl | simp)).alloc _)
    have xZ_4 : Bx (((w3.alloc (.cells #[.int .i64 N, .int .i64 D] 55)).alloc (.cells #[.int .i64 n2, .int .i64 d2] 55)).alloc (.cells #[.int .i64 n3, .int .i64 d3] 55)) (w3.heap.size + 1 + 1) #[.int .i64 n3, .int .i64 d3] := (Bx.new (b := w3.heap.size + 1 + 1) _ #[.int .i64 n3, .int .i64 d3] 55 (by first | rfl | simp))
    have zz4 : w3.heap.size + 3 ≤ (((w3.alloc (.cells #[.int .i64 N, .int .i64 D] 55)).alloc (.cells #[.int .i64 n2, .int .i64 d2] 55)).alloc (.cells #[.int .i64 n3, .int .i64 d3] 55)).heap.size := (by simp)
    clear cS_3 fS_3 zS_3
    generalize (((w3.alloc (.cells #[.int .i64 N, .int .i64 D] 55)).alloc (.cells #[.int .i64 n2, .int .i64 d2] 55)).alloc (.cells #[.int .i64 n3, .int .i64 d3] 55)) = w4 at *
    obtain ⟨cS_4, fS_4, zS_4⟩ := xS_4.out
    obtain ⟨cX_4, fX_4, zX_4⟩ := xX_4.out
    obtain ⟨cY_4, fY_4, zY_4⟩ := xY_4.out
    obtain ⟨cZ_4, fZ_4, zZ_4⟩ := xZ_4.out
    obtain ⟨hrun, hz0, hz1⟩ := run_law ha hb hc hd HOK.out HX.out hN hD.2
    have HRUN := Lib.hid hrun
    clear hrun
    obtain ⟨ts, hts⟩ : ∃ ts, ts = termsF N D := ⟨_, rfl⟩
    have HTS := Lib.hid hts
    have HTP := Lib.hid (show termsP ts = true by rw [hts]; exact terms_okV (by omega) (by omega))
    rw [← hts] at hz0 hz1
    rw [← hts] at HRUN
    have htl : ts.length ≤ 60 := (termsP_iff.1 HTP.out).1.2
    clear hts
    refine (expandS_okR _ HX.out).mono ?_
    rintro e w5 ⟨p1, r1, rfl, HT, hb5⟩
    have B5 : Bl w w5 := bl_call B4 hb5
    have xS_5 : Bx w5 (w1.heap.size) #[.int .i64 a, .int .i64 b, .int .i64 c, .int .i64 d] := xS_4.below hb5
    have xX_5 : Bx w5 (w3.heap.size) #[.int .i64 N, .int .i64 D] := xX_4.below hb5
    have xY_5 : Bx w5 (w3.heap.size + 1) #[.int .i64 n2, .int .i64 d2] := xY_4.below hb5
    have xZ_5 : Bx w5 (w3.heap.size + 1 + 1) #[.int .i64 n3, .int .i64 d3] := xZ_4.below hb5
    clear cS_4 fS_4 zS_4 cX_4 fX_4 zX_4 cY_4 fY_4 zY_4 cZ_4 fZ_4 zZ_4
    obtain ⟨cS_5, fS_5, zS_5⟩ := xS_5.out
    obtain ⟨cX_5, fX_5, zX_5⟩ := xX_5.out
    obtain ⟨cY_5, fY_5, zY_5⟩ := xY_5.out
    obtain ⟨cZ_5, fZ_5, zZ_5⟩ := xZ_5.out
    rw [← HTS.out] at HT
    rw [← HTS.out]
    have HT := Lib.hid HT
    clear HTS
    have HT := Lib.hid HT.out.sl
    by_cases hz : c * N + d * D = 0
    · skip
      have HS := Lib.hid (show stAtF a b c d N D = (0, 0, 6) by rw [stAtF, if_pos hz])
      have HR := Lib.hid (hz0 hz)
      clear hz0 hz1 hz
      go_wp2_with fail
      refine (sstateAt_any _ ha hb hc hd HOK.out HX.out hN hD HS.out).mono ?_
      rintro e w6 ⟨rfl, hb6⟩
      have B6 : Bl w w6 := bl_call B5 hb6
      have xS_6 : Bx w6 (w1.heap.size) #[.int .i64 a, .int .i64 b, .int .i64 c, .int .i64 d] := xS_5.below hb6
      have xX_6 : Bx w6 (w3.heap.size) #[.int .i64 N, .int .i64 D] := xX_5.below hb6
      have xY_6 : Bx w6 (w3.heap.size + 1) #[.int .i64 n2, .int .i64 d2] := xY_5.below hb6
      have xZ_6 : Bx w6 (w3.heap.size + 1 + 1) #[.int .i64 n3, .int .i64 d3] := xZ_5.below hb6
      clear cS_5 fS_5 zS_5 cX_5 fX_5 zX_5 cY_5 fY_5 zY_5 cZ_5 fZ_5 zZ_5
      obtain ⟨cS_6, fS_6, zS_6⟩ := xS_6.out
      obtain ⟨cX_6, fX_6, zX_6⟩ := xX_6.out
      obtain ⟨cY_6, fY_6, zY_6⟩ := xY_6.out
      obtain ⟨cZ_6, fZ_6, zZ_6⟩ := xZ_6.out
      have HT : Hid (Sl w6 (.slice p1 ts.length r1) ts) := Lib.hid ((HT.out.below (bl_refl w5)).below hb6)
      go_wp2_with fail
      have B7 : Bl w (w6.alloc (.cells #[.int .i64 0, .int .i64 0] 55)) := (bl_alloc B6 _)
      have xS_7 : Bx (w6.alloc (.cells #[.int .i64 0, .int .i64 0] 55)) (w1.heap.size) #[.int .i64 a, .int .i64 b, .int .i64 c, .int .i64 d] := (xS_6.alloc _)
      have xX_7 : Bx (w6.alloc (.cells #[.int .i64 0, .int .i64 0] 55)) (w3.heap.size) #[.int .i64 N, .int .i64 D] := (xX_6.alloc _)
      have xY_7 : Bx (w6.alloc (.cells #[.int .i64 0, .int .i64 0] 55)) (w3.heap.size + 1) #[.int .i64 n2, .int .i64 d2] := (xY_6.alloc _)
      have xZ_7 : Bx (w6.alloc (.cells #[.int .i64 0, .int .i64 0] 55)) (w3.heap.size + 1 + 1) #[.int .i64 n3, .int .i64 d3] := (xZ_6.alloc _)
      have xV_7 : Bx (w6.alloc (.cells #[.int .i64 0, .int .i64 0] 55)) (w6.heap.size) #[.int .i64 0, .int .i64 0] := (Bx.new (b := w6.heap.size) _ #[.int .i64 0, .int .i64 0] 55 (by first | rfl | simp))
      have zz7 : w6.heap.size + 1 ≤ (w6.alloc (.cells #[.int .i64 0, .int .i64 0] 55)).heap.size := (by simp)
      clear cS_6 fS_6 zS_6 cX_6 fX_6 zX_6 cY_6 fY_6 zY_6 cZ_6 fZ_6 zZ_6
      have HT : Hid (Sl (w6.alloc (.cells #[.int .i64 0, .int .i64 0] 55)) (.slice p1 ts.length r1) ts) := Lib.hid (HT.out.below (bl_alloc (bl_refl w6) _))
      generalize (w6.alloc (.cells #[.int .i64 0, .int .i64 0] 55)) = w7 at *
      obtain ⟨cS_7, fS_7, zS_7⟩ := xS_7.out
      obtain ⟨cX_7, fX_7, zX_7⟩ := xX_7.out
      obtain ⟨cY_7, fY_7, zY_7⟩ := xY_7.out
      obtain ⟨cZ_7, fZ_7, zZ_7⟩ := xZ_7.out
      obtain ⟨cV_7, fV_7, zV_7⟩ := xV_7.out
      refine (run_eqL HR.out _ HT.out (by omega)).mono ?_
      rintro e w8 ⟨x9, n9, c9, rfl, HL, hb8⟩
      have B8 : Bl w w8 := bl_call B7 hb8
      have xS_8 : Bx w8 (w1.heap.size) #[.int .i64 a, .int .i64 b, .int .i64 c, .int .i64 d] := xS_7.below hb8
      have xX_8 : Bx w8 (w3.heap.size) #[.int .i64 N, .int .i64 D] := xX_7.below hb8
      have xY_8 : Bx w8 (w3.heap.size + 1) #[.int .i64 n2, .int .i64 d2] := xY_7.below hb8
      have xZ_8 : Bx w8 (w3.heap.size + 1 + 1) #[.int .i64 n3, .int .i64 d3] := xZ_7.below hb8
      have xV_8 : Bx w8 (w6.heap.size) #[.int .i64 0, .int .i64 0] := xV_7.below hb8
      clear cS_7 fS_7 zS_7 cX_7 fX_7 zX_7 cY_7 fY_7 zY_7 cZ_7 fZ_7 zZ_7 cV_7 fV_7 zV_7
      obtain ⟨cS_8, fS_8, zS_8⟩ := xS_8.out
      obtain ⟨cX_8, fX_8, zX_8⟩ := xX_8.out
      obtain ⟨cY_8, fY_8, zY_8⟩ := xY_8.out
      obtain ⟨cZ_8, fZ_8, zZ_8⟩ := xZ_8.out
      obtain ⟨cV_8, fV_8, zV_8⟩ := xV_8.out
      have HT : Hid (Sl w8 (.slice p1 ts.length r1) ts) := Lib.hid ((HT.out.below (bl_refl w7)).below hb8)
      go_wp2
      go_ret
      exact ⟨rfl, B8⟩
    · skip
      obtain ⟨p, q, hf, hpq, hr⟩ := hz1 hz
      have HS := Lib.hid (show stAtF a b c d N D = (p, q, 0) by rw [stAtF, if_neg hz, hf])
      have HPQ := Lib.hid hpq
      have hpb := okF_bdE hpq
      obtain ⟨ys, hys⟩ : ∃ ys, ys = termsF p q := ⟨_, rfl⟩
      have HYS := Lib.hid hys
      rw [← hys] at hr
      have hyl : ys.length ≤ 60 := by rw [hys]; exact termsF_60 (by omega) (by omega)
      have HR := Lib.hid hr
      clear hz0 hz1 hz hf hr hpq hys
      go_wp2_with fail
      refine (sstateAt_any _ ha hb hc hd HOK.out HX.out hN hD HS.out).mono ?_
      rintro e w6 ⟨rfl, hb6⟩
      have B6 : Bl w w6 := bl_call B5 hb6
      have xS_6 : Bx w6 (w1.heap.size) #[.int .i64 a, .int .i64 b, .int .i64 c, .int .i64 d] := xS_5.below hb6
      have xX_6 : Bx w6 (w3.heap.size) #[.int .i64 N, .int .i64 D] := xX_5.below hb6
      have xY_6 : Bx w6 (w3.heap.size + 1) #[.int .i64 n2, .int .i64 d2] := xY_5.below hb6
      have xZ_6 : Bx w6 (w3.heap.size + 1 + 1) #[.int .i64 n3, .int .i64 d3] := xZ_5.below hb6
      clear cS_5 fS_5 zS_5 cX_5 fX_5 zX_5 cY_5 fY_5 zY_5 cZ_5 fZ_5 zZ_5
      obtain ⟨cS_6, fS_6, zS_6⟩ := xS_6.out
      obtain ⟨cX_6, fX_6, zX_6⟩ := xX_6.out
      obtain ⟨cY_6, fY_6, zY_6⟩ := xY_6.out
      obtain ⟨cZ_6, fZ_6, zZ_6⟩ := xZ_6.out
      have HT : Hid (Sl w6 (.slice p1 ts.length r1) ts) := Lib.hid ((HT.out.below (bl_refl w5)).below hb6)
      go_wp2_with fail
      have B7 : Bl w (w6.alloc (.cells #[.int .i64 p, .int .i64 q] 55)) := (bl_alloc B6 _)
      have xS_7 : Bx (w6.alloc (.cells #[.int .i64 p, .int .i64 q] 55)) (w1.heap.size) #[.int .i64 a, .int .i64 b, .int .i64 c, .int .i64 d] := (xS_6.alloc _)
      have xX_7 : Bx (w6.alloc (.cells #[.int .i64 p, .int .i64 q] 55)) (w3.heap.size) #[.int .i64 N, .int .i64 D] := (xX_6.alloc _)
      have xY_7 : Bx (w6.alloc (.cells #[.int .i64 p, .int .i64 q] 55)) (w3.heap.size + 1) #[.int .i64 n2, .int .i64 d2] := (xY_6.alloc _)
      have xZ_7 : Bx (w6.alloc (.cells #[.int .i64 p, .int .i64 q] 55)) (w3.heap.size + 1 + 1) #[.int .i64 n3, .int .i64 d3] := (xZ_6.alloc _)
      have xV_7 : Bx (w6.alloc (.cells #[.int .i64 p, .int .i64 q] 55)) (w6.heap.size) #[.int .i64 p, .int .i64 q] := (Bx.new (b := w6.heap.size) _ #[.int .i64 p, .int .i64 q] 55 (by first | rfl | simp))
      have zz7 : w6.heap.size + 1 ≤ (w6.alloc (.cells #[.int .i64 p, .int .i64 q] 55)).heap.size := (by simp)
      clear cS_6 fS_6 zS_6 cX_6 fX_6 zX_6 cY_6 fY_6 zY_6 cZ_6 fZ_6 zZ_6
      have HT : Hid (Sl (w6.alloc (.cells #[.int .i64 p, .int .i64 q] 55)) (.slice p1 ts.length r1) ts) := Lib.hid (HT.out.below (bl_alloc (bl_refl w6) _))
      generalize (w6.alloc (.cells #[.int .i64 p, .int .i64 q] 55)) = w7 at *
      obtain ⟨cS_7, fS_7, zS_7⟩ := xS_7.out
      obtain ⟨cX_7, fX_7, zX_7⟩ := xX_7.out
      obtain ⟨cY_7, fY_7, zY_7⟩ := xY_7.out
      obtain ⟨cZ_7, fZ_7, zZ_7⟩ := xZ_7.out
      obtain ⟨cV_7, fV_7, zV_7⟩ := xV_7.out
      refine (run_eqL HR.out _ HT.out (by omega)).mono ?_
      rintro e w8 ⟨x9, n9, c9, rfl, HL, hb8⟩
      have B8 : Bl w w8 := bl_call B7 hb8
      have xS_8 : Bx w8 (w1.heap.size) #[.int .i64 a, .int .i64 b, .int .i64 c, .int .i64 d] := xS_7.below hb8
      have xX_8 : Bx w8 (w3.heap.size) #[.int .i64 N, .int .i64 D] := xX_7.below hb8
      have xY_8 : Bx w8 (w3.heap.size + 1) #[.int .i64 n2, .int .i64 d2] := xY_7.below hb8
      have xZ_8 : Bx w8 (w3.heap.size + 1 + 1) #[.int .i64 n3, .int .i64 d3] := xZ_7.below hb8
      have xV_8 : Bx w8 (w6.heap.size) #[.int .i64 p, .int .i64 q] := xV_7.below hb8
      clear cS_7 fS_7 zS_7 cX_7 fX_7 zX_7 cY_7 fY_7 zY_7 cZ_7 fZ_7 zZ_7 cV_7 fV_7 zV_7
      obtain ⟨cS_8, fS_8, zS_8⟩ := xS_8.out
      obtain ⟨cX_8, fX_8, zX_8⟩ := xX_8.out
      obtain ⟨cY_8, fY_8, zY_8⟩ := xY_8.out
      obtain ⟨cZ_8, fZ_8, zZ_8⟩ := xZ_8.out
      obtain ⟨cV_8, fV_8, zV_8⟩ := xV_8.out
      have HT : Hid (Sl w8 (.slice p1 ts.length r1) ts) := Lib.hid ((HT.out.below (bl_refl w7)).below hb8)
      obtain ⟨a9, c8, e9, _⟩ := HL.sl.form'
      obtain ⟨rfl, rfl, rfl⟩ : x9 = a9 ∧ n9 = ys.length ∧ c9 = c8 := by simpa using e9
      clear e9
      have HL := Lib.hid HL.sl
      go_wp2_with fail
      refine (expandS_okR _ HPQ.out).mono ?_
      rintro e w9 ⟨p2, r2, rfl, HW, hb9⟩
      have B9 : Bl w w9 := bl_call B8 hb9
      have xS_9 : Bx w9 (w1.heap.size) #[.int .i64 a, .int .i64 b, .int .i64 c, .int .i64 d] := xS_8.below hb9
      have xX_9 : Bx w9 (w3.heap.size) #[.int .i64 N, .int .i64 D] := xX_8.below hb9
      have xY_9 : Bx w9 (w3.heap.size + 1) #[.int .i64 n2, .int .i64 d2] := xY_8.below hb9
      have xZ_9 : Bx w9 (w3.heap.size + 1 + 1) #[.int .i64 n3, .int .i64 d3] := xZ_8.below hb9
      have xV_9 : Bx w9 (w6.heap.size) #[.int .i64 p, .int .i64 q] := xV_8.below hb9
      clear cS_8 fS_8 zS_8 cX_8 fX_8 zX_8 cY_8 fY_8 zY_8 cZ_8 fZ_8 zZ_8 cV_8 fV_8 zV_8
      obtain ⟨cS_9, fS_9, zS_9⟩ := xS_9.out
      obtain ⟨cX_9, fX_9, zX_9⟩ := xX_9.out
      obtain ⟨cY_9, fY_9, zY_9⟩ := xY_9.out
      obtain ⟨cZ_9, fZ_9, zZ_9⟩ := xZ_9.out
      obtain ⟨cV_9, fV_9, zV_9⟩ := xV_9.out
      have HT : Hid (Sl w9 (.slice p1 ts.length r1) ts) := Lib.hid ((HT.out.below (bl_refl w8)).below hb9)
      have HL : Hid (Sl w9 (.slice x9 ys.length c9) ys) := Lib.hid ((HL.out.below (bl_refl w8)).below hb9)
      rw [← HYS.out] at HW
      rw [← HYS.out]
      have HW := Lib.hid HW.sl
      clear HYS
      go_wp2_with fail
      refine (same_eqL _ HL.out HW.out).mono ?_
      rintro e w10 ⟨rfl, hb10⟩
      have B10 : Bl w w10 := bl_call B9 hb10
      have xS_10 : Bx w10 (w1.heap.size) #[.int .i64 a, .int .i64 b, .int .i64 c, .int .i64 d] := xS_9.below hb10
      have xX_10 : Bx w10 (w3.heap.size) #[.int .i64 N, .int .i64 D] := xX_9.below hb10
      have xY_10 : Bx w10 (w3.heap.size + 1) #[.int .i64 n2, .int .i64 d2] := xY_9.below hb10
      have xZ_10 : Bx w10 (w3.heap.size + 1 + 1) #[.int .i64 n3, .int .i64 d3] := xZ_9.below hb10
      have xV_10 : Bx w10 (w6.heap.size) #[.int .i64 p, .int .i64 q] := xV_9.below hb10
      clear cS_9 fS_9 zS_9 cX_9 fX_9 zX_9 cY_9 fY_9 zY_9 cZ_9 fZ_9 zZ_9 cV_9 fV_9 zV_9
      obtain ⟨cS_10, fS_10, zS_10⟩ := xS_10.out
      obtain ⟨cX_10, fX_10, zX_10⟩ := xX_10.out
      obtain ⟨cY_10, fY_10, zY_10⟩ := xY_10.out
      obtain ⟨cZ_10, fZ_10, zZ_10⟩ := xZ_10.out
      obtain ⟨cV_10, fV_10, zV_10⟩ := xV_10.out
      have HT : Hid (Sl w10 (.slice p1 ts.length r1) ts) := Lib.hid ((HT.out.below (bl_refl w9)).below hb10)
      have HL : Hid (Sl w10 (.slice x9 ys.length c9) ys) := Lib.hid ((HL.out.below (bl_refl w9)).below hb10)
      have HW : Hid (Sl w10 (.slice p2 ys.length r2) ys) := Lib.hid ((HW.out.below (bl_refl w9)).below hb10)
      clear HW HL HS HR HPQ
      clear cS_10 fS_10 zS_10 cX_10 fX_10 zX_10 cY_10 fY_10 zY_10 cZ_10 fZ_10 zZ_10 cV_10 fV_10 zV_10
      go_wp2_with fail
      go_loopw [17, 18] (fun s17 s18 wr => ∃ (k : Nat) (l : Int), k ≤ ys.length + 1 ∧ s18 = .int .i64 k ∧ s17 = .int .i64 l ∧ Hid (NdK a b c d ts k l) ∧ Bl w10 wr) (fun _ s18 _ => ys.length + 1 - (intOf s18).toNat)
      case atStart => exact ⟨0, 0, Nat.zero_le _, rfl, rfl, Lib.hid (.inl ⟨rfl, rfl⟩), bl_refl _⟩
      case round =>
        obtain ⟨k, l, hk, rfl, rfl, HK, hB⟩ := hrel
        obtain ⟨cS, fS, zS⟩ := (xS_10.below hB).out
        by_cases hlt : k ≤ ys.length
        · have hle : (k : Int) ≤ (ys.length : Int) := by omega
          rcases nd_at HOK.out HTP.out HRUN.out (show k ≤ 60 by omega) HK.out with h3 | ⟨n, h0, hln, hnt, hn0, hkn⟩
          · have H3 := Lib.hid h3
            clear h3
            go_wp2_with fail
            refine (need_eqL H3.out _ (HT.out.below hB) (by omega)).mono ?_
            rintro e w9 ⟨rfl, hb9⟩
            have B9 : Bl w w9 := bl_call (bl_call B10 hB) hb9
            go_wp2
            go_ret
            exact ⟨rfl, B9⟩
          · have HN := Lib.hid h0
            have d1 : decide (n < l) = false := decide_eq_false (by omega)
            have d2 : decide ((ts.length : Int) < n) = false := decide_eq_false (by omega)
            have HK2 : NdK a b c d ts (k + 1) n := .inr ⟨by omega, by rw [show ((k + 1 : Nat) : Int) - 1 = (k : Int) by omega]; exact h0⟩
            have HK2 := Lib.hid HK2
            clear h0 HK
            rcases Nat.eq_zero_or_pos k with hk0 | hk0
            · subst hk0
              have := hkn rfl
              subst this
              clear hkn
              go_wp2_with fail
              refine (need_eqL HN.out _ (HT.out.below hB) (by omega)).mono ?_
              rintro e w9 ⟨rfl, hb9⟩
              have B9 : Bl w10 w9 := bl_call hB hb9
              go_wp2
              go_roundw
              case rel => exact ⟨0 + 1, 0, by omega, by go_num, rfl, HK2, B9⟩
              case measure => simp only [intOf]; omega
            · have d3 : ((k : Int) == 0) = false := by simp; omega
              clear hkn
              go_wp2_with fail
              refine (need_eqL HN.out _ (HT.out.below hB) (by omega)).mono ?_
              rintro e w9 ⟨rfl, hb9⟩
              have B9 : Bl w10 w9 := bl_call hB hb9
              go_wp2
              go_roundw
              case rel => exact ⟨k + 1, n, by omega, by go_num, rfl, HK2, B9⟩
              case measure => simp only [intOf]; omega
        · have hle : ¬ (k : Int) ≤ (ys.length : Int) := by omega
          go_wp2
          go_ret
          exact ⟨rfl, bl_call B10 hB⟩

set_option maxRecDepth 100000 in
theorem fnStateRuns_lifted (os : Os) (started : os.Started) (H : Type) (enc : TypeId × Value → H) :
    ReturnsInHanded {} Try.checked os 5 .any (Rows.fnStateRunsSpec.pre6 enc Try.prog Try.f5 Rows.fnStateRunsRow.domain false) (Rows.fnStateRunsSpec.post enc Try.prog Try.f5 false true false false) := by
  refine returnsInHanded_of_change (C := Try.checked) own started (by kernel_rfl) Try.func5
    (ChangeSpec.witness6 (enc := enc) (C := Try.checked) false ⟨#[], #[.slice none 0 0, .slice none 0 0], []⟩ 8 (by kernel_rfl) (by kernel_rfl) (by kernel_rfl) (by kernel_rfl)) ?_
  intro W base args ds gs before hval0 hW hcnd _
  have hval : ∀ (j : Nat) t v, Try.f5.params[j]? = some t → args[j]? = some v → Value.okWide Try.prog W .any base t v := hval0
  have hW' := hW
  obtain ⟨p, q, hA0, hV, rfl, hfz, hnd⟩ := hW
  have hA : DataW.TrodAll enc Try.prog W 0 (fun _ => true) true Try.f5.params.toList args.toList ds p := hA0
  rw [Try.params5] at hA hval
  obtain ⟨v0, vs0, d0, ds0, p0, q0, hargs, rfl, rfl, h0, r0⟩ := trodAll_cons hA
  obtain ⟨v1, vs1, d1, ds1, p1, q1, rfl, rfl, rfl, h1, r1⟩ := trodAll_cons r0
  obtain ⟨rfl, rfl, rfl⟩ := trodAll_nil r1
  obtain rfl : args = #[v0, v1] := by cases args; simp_all
  obtain ⟨rfl, rfl⟩ := trodVars_none hV
  have k0 := h0
  have lt0 : ∀ x ∈ p0, x.block < W.heap.size := by obtain ⟨m, hm⟩ := k0; exact DataW.trod_lt m _ _ _ hm
  have k1 := h1
  have lt1 : ∀ x ∈ p1, x.block < W.heap.size := by obtain ⟨m, hm⟩ := k1; exact DataW.trod_lt m _ _ _ hm
  obtain ⟨x0, S0⟩ := bytes_of_trod (hval 0 22 v0 rfl rfl) h0
  obtain ⟨x1, S1⟩ := bytes_of_trod (hval 1 22 v1 rfl rfl) h1
  clear hA0 hval0
  refine (lawStateRuns v0 x0 v1 x1 W S0 S1).mono fun e W' ⟨he, bel⟩ => ?_
  subst he
  exact ⟨_, rfl, _, _, _, [], _, [], hW', trodAll_mk1 (shut_bool Try.underlying4 _), (trodAll_cons_mk (Below.trod laidOut (by kernel_rfl) (of_decide_eq_true (by kernel_rfl)) k0 bel lt0) (trodAll_cons_mk (Below.trod laidOut (by kernel_rfl) (of_decide_eq_true (by kernel_rfl)) k1 bel lt1) trodAll_mk0)), rfl, bel.frame _, fun h => by cases h⟩

/-- THE STATEMENT. -/
theorem fnStateRuns_holds : Rows.FnStateRunsSaid :=
  OpenClaim.holds_of_wide 5 Try.f5 rfl rfl rfl rfl rfl rfl rfl ⟨rfl, rfl, rfl, rfl, rfl⟩ rfl rfl rfl rfl rfl (by kernel_rfl) Try.func5 (by kernel_rfl)
    (of_decide_eq_true (by kernel_rfl)) (by unfold Func.isWrapper; first | (rw [if_pos (by decide +kernel)]; kernel_rfl) | (rw [if_neg (by decide +kernel)]; exact ⟨rfl, rfl⟩))
    (fun os started H enc _ => fnStateRuns_lifted os started H enc)
#print axioms fnStateRuns_holds

end Go.Proofs.Ytgmofofokhlhnaa
