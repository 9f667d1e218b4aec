/- RunState: the program and the reference give the same. Each theorem names its conditions. -/
import Derived.Test.YtgmofofokhlhnaaStS
import Derived.Test.YtgmofofokhlhnaaVal
import Derived.Test.YtgmofofokhlhnaaFneed
import Derived.Test.YtgmofofokhlhnaaEndI
import Derived.Test.YtgmofofokhlhnaaEndS
namespace Go.Proofs.Ytgmofofokhlhnaa
open Go.RowKit
set_option linter.unusedVariables false
set_option linter.unusedSimpArgs false

/-- What a run gives when all terms have been fed, or one could not be. -/
noncomputable def runR : Option (St × List Int) → List Int × Int
  | none => ([], 5)
  | some r => endF r.1 r.2
/-- RunState: terms, and a code. -/
noncomputable def runF (a b c d : Int) (xs : List Int) : List Int × Int :=
  if okS ⟨a, b, c, d⟩ then (if termsP xs then runR (runG xs ⟨a, b, c, d⟩ []) else ([], 1)) else ([], 1)
theorem run_end {xs : List Int} {n : Nat} {s : St} {out : List Int} (hn : ¬ n < xs.length) : runG (xs.drop n) s out = some (s, out) := by
  rw [List.drop_of_length_le (by omega), runG]
theorem run_none {t : Int} {xs : List Int} {n : Nat} {s : St} {out : List Int} (ht : xs[n]? = some t) (hr : feedR s out t = none) : runG (xs.drop n) s out = none := by
  rw [drop_at ht, runG, hr]
theorem run_some {t : Int} {xs : List Int} {n : Nat} {s s' : St} {out out' : List Int} (ht : xs[n]? = some t) (hr : feedR s out t = some (s', out')) : runG (xs.drop n) s out = runG (xs.drop (n + 1)) s' out' := by
  rw [drop_at ht, runG, hr]
theorem shortP_len {l : List Int} (h : termsP (shortL l) = true) : (shortL l).length ≤ 1048576 := by have := (termsP_iff.1 h).1.2; omega
theorem endF_len (s : St) (out : List Int) : (endF s out).1.length ≤ 1048576 := by
  unfold endF
  split
  · split
    · simp
    · split
      · rename_i h; exact shortP_len h
      · simp
  · split
    · split
      · rename_i h; exact shortP_len h
      · simp
    · simp
theorem endF_bad (s : St) (out : List Int) (h : (endF s out).2 ≠ 0) : (endF s out).1 = [] := by
  unfold endF at h ⊢
  split at h
  · rename_i h1
    rw [if_pos h1]
    split at h
    · rename_i h2; rw [if_pos h2]
    · rename_i h2
      rw [if_neg h2]
      split at h
      · exact absurd rfl h
      · rename_i h3; rw [if_neg h3]
  · rename_i h1
    rw [if_neg h1]
    split at h
    · rename_i h2
      rw [if_pos h2]
      split at h
      · exact absurd rfl h
      · rename_i h3; rw [if_neg h3]
    · rename_i h2; rw [if_neg h2]
theorem runF_len (a b c d : Int) (xs : List Int) : (runF a b c d xs).1.length ≤ 1048576 := by
  unfold runF
  split
  · split
    · cases runG xs ⟨a, b, c, d⟩ [] with
      | none => simp [runR]
      | some r => exact endF_len r.1 r.2
    · simp
  · simp
theorem EmJ.bds {s : St} {out : List Int} (h : EmJ s out) : ∀ x ∈ out, -1000000000 ≤ x ∧ x ≤ 1000000000 := fun x hx => by
  obtain ⟨i, hi, rfl⟩ := List.getElem_of_mem hx
  have := h.bd i _ (List.getElem?_eq_getElem hi)
  unfold lowT at this
  split at this <;> omega
theorem term_low {xs : List Int} {n : Nat} {t : Int} {o : List Int} (h : termsP xs = true) (ht : xs[n]? = some t) (h0 : n = 0 → o = []) : o = [] ∨ 1 ≤ t := by
  rcases Nat.eq_zero_or_pos n with e | e
  · exact .inl (h0 e)
  · right
    have := inB_iff.1 ((termsP_iff.1 h).2 n t ht)
    unfold lowT at this
    split at this <;> omega
/-- RunState's post. -/
def RunP (a b c d : Int) (xs : List Int) (w : World) (e : Ending) (w' : World) : Prop :=
  ∃ x n k, e = .returned (.tuple #[.slice x n k, .int .i64 (runF a b c d xs).2]) ∧ Own w' w.heap.size (.slice x n k) (runF a b c d xs).1 ∧ Bl w w'
theorem runp_no {a b c d q : Int} {xs : List Int} {w w' : World} (h : runF a b c d xs = ([], q)) (hb : Bl w w') : RunP a b c d xs w (.returned (.tuple #[.slice none 0 0, .int .i64 q])) w' := by
  unfold RunP; rw [h]; exact ⟨none, 0, 0, rfl, Own.nil _ _, hb⟩
theorem runp_end {a b c d : Int} {xs : List Int} {w w1 w' : World} {p : Nat} {ov : Value} {s : St} {out : List Int} {e : Ending} (h : runF a b c d xs = endF s out) (hs : w.heap.size ≤ w1.heap.size) (he : EndI w1 p ov s out e w') (hb : Bl w w') : RunP a b c d xs w e w' := by
  unfold RunP; rw [h]
  obtain ⟨x, n, k, h1, h2, _⟩ := he
  exact ⟨x, n, k, h1, h2.mono hs, hb⟩
theorem runp_yes {a b c d : Int} {xs l : List Int} {w w1 w' : World} {x : Option Addr} {n k : Nat} (h : runF a b c d xs = (l, 0)) (hs : w.heap.size ≤ w1.heap.size) (ho : Own w' w1.heap.size (.slice x n k) l) (hb : Bl w w') : RunP a b c d xs w (.returned (.tuple #[.slice x n k, .int .i64 0])) w' := by
  unfold RunP; rw [h]
  exact ⟨x, n, k, rfl, ho.mono hs, hb⟩

set_option maxRecDepth 100000 in
set_option maxHeartbeats 6400000 in
theorem impl_RunState (a b c d : Int) (va : Value) (xs : List Int) (w : World) (ha : Sl w va xs) (hl : xs.length ≤ 1048576) :
    Calls Try.prog 40 #[.agg #[.int .i64 a, .int .i64 b, .int .i64 c, .int .i64 d], va] w (RunP a b c d xs w) := by
  have HA := Lib.hid ha
  obtain ⟨av, cv, rfl, _⟩ := ha.form'
  clear ha
  cases e1 : okS (⟨a, b, c, d⟩ : St) with
  | false =>
    have HR := Lib.hid (show runF a b c d xs = ([], 1) by simp [runF, e1])
    have E1 := Lib.hid e1
    clear e1
    go_enter Try.func40, Try.ntmps40
    go_wp2_with fail
    refine (iok_eq (s := ⟨a, b, c, d⟩) E1.out _).mono ?_
    rintro e w1 ⟨rfl, hb1⟩
    have B1 : Bl w w1 := bl_call (bl_alloc (bl_refl _) _) hb1
    have xS_1 : Bx w1 (w.heap.size) #[.int .i64 a, .int .i64 b, .int .i64 c, .int .i64 d] := (Bx.new (b := w.heap.size) _ #[.int .i64 a, .int .i64 b, .int .i64 c, .int .i64 d] 52 (by first | rfl | simp)).below hb1
    obtain ⟨cS_1, fS_1, zS_1⟩ := xS_1.out
    go_wp2
    go_ret2
    exact runp_no HR.out B1
  | true =>
    have hok := okS_iff.1 e1
    cases e2 : termsP xs with
    | false =>
      have HR := Lib.hid (show runF a b c d xs = ([], 1) by simp [runF, e1, e2])
      have E1 := Lib.hid e1
      clear e1
      have E2 := Lib.hid e2
      clear e2
      go_enter Try.func40, Try.ntmps40
      go_wp2_with fail
      refine (iok_eq (s := ⟨a, b, c, d⟩) E1.out _).mono ?_
      rintro e w1 ⟨rfl, hb1⟩
      have B1 : Bl w w1 := bl_call (bl_alloc (bl_refl _) _) hb1
      have xS_1 : Bx w1 (w.heap.size) #[.int .i64 a, .int .i64 b, .int .i64 c, .int .i64 d] := (Bx.new (b := w.heap.size) _ #[.int .i64 a, .int .i64 b, .int .i64 c, .int .i64 d] 52 (by first | rfl | simp)).below hb1
      obtain ⟨cS_1, fS_1, zS_1⟩ := xS_1.out
      go_wp2_with fail
      refine (ivalT_eqN E2.out _ (HA.out.below B1) hl).mono ?_
      rintro e w2 ⟨rfl, hb2⟩
      have B2 : Bl w w2 := bl_call B1 hb2
      have xS_2 : Bx w2 (w.heap.size) #[.int .i64 a, .int .i64 b, .int .i64 c, .int .i64 d] := xS_1.below hb2
      clear cS_1 fS_1 zS_1
      obtain ⟨cS_2, fS_2, zS_2⟩ := xS_2.out
      go_wp2
      go_ret2
      exact runp_no HR.out B2
    | true =>
      obtain ⟨R, hR⟩ : ∃ R, runG xs ⟨a, b, c, d⟩ [] = R := ⟨_, rfl⟩
      have HR := Lib.hid (show runF a b c d xs = runR R by simp [runF, e1, e2, hR])
      have HG := Lib.hid hR
      have HBD := Lib.hid hok.1
      have HDT := Lib.hid hok.2
      have HTP := Lib.hid e2
      clear hR hok
      have E1 := Lib.hid e1
      clear e1
      have E2 := Lib.hid e2
      clear e2
      go_enter Try.func40, Try.ntmps40
      go_wp2_with fail
      refine (iok_eq (s := ⟨a, b, c, d⟩) E1.out _).mono ?_
      rintro e w1 ⟨rfl, hb1⟩
      have B1 : Bl w w1 := bl_call (bl_alloc (bl_refl _) _) hb1
      have xS_1 : Bx w1 (w.heap.size) #[.int .i64 a, .int .i64 b, .int .i64 c, .int .i64 d] := (Bx.new (b := w.heap.size) _ #[.int .i64 a, .int .i64 b, .int .i64 c, .int .i64 d] 52 (by first | rfl | simp)).below hb1
      obtain ⟨cS_1, fS_1, zS_1⟩ := xS_1.out
      go_wp2_with fail
      refine (ivalT_eqN E2.out _ (HA.out.below B1) hl).mono ?_
      rintro e w2 ⟨rfl, hb2⟩
      have B2 : Bl w w2 := bl_call B1 hb2
      have xS_2 : Bx w2 (w.heap.size) #[.int .i64 a, .int .i64 b, .int .i64 c, .int .i64 d] := xS_1.below hb2
      clear cS_1 fS_1 zS_1
      obtain ⟨cS_2, fS_2, zS_2⟩ := xS_2.out
      have hl60 := (termsP_iff.1 HTP.out).1
      go_wp2_with fail
      have hz := zS_2
      go_loopw [8, 21] (fun _ s21 wr => ∃ (n : Nat) (s1 : St) (o1 : List Int) (v1 : Value), s21 = .int .i64 n ∧ n ≤ xs.length ∧ Bx wr w2.heap.size #[.int .i64 s1.a, .int .i64 s1.b, .int .i64 s1.c, .int .i64 s1.d, .bool false, v1] ∧ Own wr w2.heap.size v1 o1 ∧ Hid (runG (xs.drop n) s1 o1 = R) ∧ Hid (bdS s1 = true) ∧ Hid (Det s1) ∧ Hid (EmJ s1 o1) ∧ Hid (n = 0 → o1 = []) ∧ Hid (v1.ownBlock ≠ some w2.heap.size) ∧ Bl w2 wr) (fun _ s21 _ => xs.length - (intOf s21).toNat)
      case atStart => exact ⟨0, ⟨a, b, c, d⟩, [], .slice none 0 0, rfl, Nat.zero_le _, Bx.new _ _ _ rfl, Own.nil _ _, HG, HBD, HDT, Lib.hid (EmJ.nil _), Lib.hid (fun _ => rfl), Lib.hid (by simp [Value.ownBlock]), bl_alloc (bl_refl _) _⟩
      case round =>
        obtain ⟨n, s1, o1, v1, rfl, hn, x1, h1, HE, HBB, HDD, HJ, H0, HNE, Bq⟩ := hrel
        have HO := Lib.hid h1
        have hl1 := HJ.out.len
        obtain ⟨oa, oc, rfl, _⟩ := h1.form
        clear h1 cS_2 fS_2 zS_2
        have Br : Bl w wr := bl_call B2 Bq
        have hBs := Br.size
        obtain ⟨c1, f1, z1⟩ := x1.out
        by_cases hnx : n < xs.length
        · have hnI : (n : Int) < (xs.length : Int) := by omega
          obtain ⟨tb, tof, rfl, t, ht, ct, _⟩ := HA.out.cellAt' Br (k := n) hnx
          have htb := termsP_bdT HTP.out ht
          have HT := Lib.hid ht
          clear ht
          go_wp2_with fail
          refine (ifed_any s1 t _ HBB.out htb).mono ?_
          rintro e w3 ⟨rfl, hb3⟩
          have x3 := x1.below hb3
          have HO3 := Lib.hid (HO.out.below hb3)
          have B3 : Bl w2 w3 := bl_call Bq hb3
          clear c1 f1 z1
          obtain ⟨c3, f3, z3⟩ := x3.out
          go_wp2_with fail
          refine (iset_any (s' := fedF s1 t) x3 (.inr (HDD.out.fed t))).mono ?_
          rintro e w4 ⟨rfl, x4, hu4⟩
          have HO4 := Lib.hid (HO3.out.upd hu4 HNE.out)
          have B4 := bl_upd B3 hu4 (Nat.le_refl _)
          clear c3 f3 z3
          obtain ⟨c4, f4, z4⟩ := x4.out
          cases h6 : bdS (fedF s1 t) with
          | false =>
            have HE2 := Lib.hid (run_none HT.out (show feedR s1 o1 t = none from feedR_no h6))
            clear h6
            go_wp2
            go_ret2
            exact runp_no (by rw [HR.out, ← HE.out, HE2.out]; rfl) (bl_call B2 B4)
          | true =>
            have hfe := feedR_yes (out := o1) h6
            have H6 := Lib.hid h6
            clear h6
            go_wp2_with fail
            refine (iemit_any (s := fedF s1 t) (most := 1073741824) x4 HO4.out B4.size HNE.out H6.out (.inr (HDD.out.fed t)) hl1 (by omega)).mono ?_
            rintro e w5 hE
            cases hem : emitF 1073741824 (fedF s1 t) o1 with
            | none =>
              have HE2 := Lib.hid (run_none HT.out (show feedR s1 o1 t = none from hfe.trans hem))
              rw [hem] at hE
              clear hem hfe
              obtain ⟨hU5, rfl⟩ := hE
              have B5 := bl_upv B4 hU5 (Nat.le_refl _) (fun k hk => (HO4.out.lt k hk).1)
              clear c4 f4 z4
              go_wp2
              go_ret2
              exact runp_no (by rw [HR.out, ← HE.out, HE2.out]; rfl) (bl_call B2 B5)
            | some r =>
              obtain ⟨s2, o2⟩ := r
              have HIN := Lib.hid (feedR_inv (s := s1) (t := t) hl1 (hfe.trans hem))
              have HJ2 := Lib.hid (feedR_J (s := s1) (t := t) (hfe.trans hem) HJ.out (term_low HTP.out HT.out H0.out))
              have HE2 := Lib.hid (show runG (xs.drop (n + 1)) s2 o2 = R by rw [← run_some HT.out (show feedR s1 o1 t = some (s2, o2) from hfe.trans hem)]; exact HE.out)
              rw [hem] at hE
              clear hem hfe
              obtain ⟨hU5, rfl, v2, x5, ho5, hr5⟩ := hE
              have B5 := bl_upv B4 hU5 (Nat.le_refl _) (fun k hk => (HO4.out.lt k hk).1)
              have HNE5 := Lib.hid (own_ne hr5 HNE.out z4)
              have HO5 := Lib.hid ho5
              clear c4 f4 z4 ho5 hr5
              go_wp2
              go_roundw
              case rel => exact ⟨n + 1, s2, o2, v2, by go_num, by omega, x5, HO5.out, HE2, Lib.hid HIN.out.1, Lib.hid (HIN.out.2.2.2 HDD.out), HJ2, Lib.hid (fun q => absurd q (by omega)), HNE5, B5⟩
              case measure => clear HE2; simp only [intOf, Int.toNat_natCast]; omega
        · have hnI : ¬ (n : Int) < (xs.length : Int) := by omega
          have HE2 := Lib.hid (run_end (s := s1) (out := o1) hnx)
          go_wp2_with fail
          refine (iend_any x1 HO.out Bq.size HNE.out HBB.out hl1 HJ.out.bds).mono ?_
          rintro e w5 hE
          have hE2 := hE
          obtain ⟨y, yn, yc, rfl, hy, hU⟩ := hE
          clear c1 f1 z1
          go_wp2
          go_ret2
          exact runp_end (by rw [HR.out, ← HE.out, HE2.out]; rfl) hBs hE2 (bl_call B2 (bl_upv Bq hU (Nat.le_refl _) (fun k hk => (HO.out.lt k hk).1)))

end Go.Proofs.Ytgmofofokhlhnaa
