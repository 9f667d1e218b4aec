/- FeedsNeeded: the program and the reference give the same. Each theorem names its conditions. -/
import Derived.Test.YtgmofofokhlhnaaStS
import Derived.Test.YtgmofofokhlhnaaVal
namespace Go.Proofs.Ytgmofofokhlhnaa
open Go.RowKit
set_option linter.unusedVariables false
set_option linter.unusedSimpArgs false

/-- How many terms are needed for m terms of the value. -/
def feedsG (m : Int) : List Int → Nat → St → List Int → Int × Int
  | [], n, s, out => if (out.length : Int) < m then (0, 3) else ((n : Int), 0)
  | t :: ts, n, s, out => if (out.length : Int) < m then (match feedR s out t with | none => (0, 5) | some r => feedsG m ts (n + 1) r.1 r.2) else ((n : Int), 0)
theorem feeds_done {m : Int} {xs : List Int} {n : Nat} {s : St} {out : List Int} (h : ¬ (out.length : Int) < m) : feedsG m xs n s out = ((n : Int), 0) := by
  cases xs <;> rw [feedsG, if_neg h]
theorem drop_at {xs : List Int} {k : Nat} {t : Int} (h : xs[k]? = some t) : xs.drop k = t :: xs.drop (k + 1) := by
  obtain ⟨hk, rfl⟩ := List.getElem?_eq_some_iff.1 h
  exact List.drop_eq_getElem_cons hk
theorem feeds_end {m : Int} {xs : List Int} {n : Nat} {s : St} {out : List Int} (h : (out.length : Int) < m) (hn : n = xs.length) : feedsG m (xs.drop n) n s out = (0, 3) := by
  rw [List.drop_of_length_le (by omega), feedsG, if_pos h]
theorem feeds_none {m t : Int} {xs : List Int} {n : Nat} {s : St} {out : List Int} (h : (out.length : Int) < m) (ht : xs[n]? = some t) (hr : feedR s out t = none) : feedsG m (xs.drop n) n s out = (0, 5) := by
  rw [drop_at ht, feedsG, if_pos h, hr]
theorem feeds_some {m t : Int} {xs : List Int} {n : Nat} {s s' : St} {out out' : List Int} (h : (out.length : Int) < m) (ht : xs[n]? = some t) (hr : feedR s out t = some (s', out')) : feedsG m (xs.drop n) n s out = feedsG m (xs.drop (n + 1)) (n + 1) s' out' := by
  rw [drop_at ht, feedsG, if_pos h, hr]
/-- How many terms are needed, and a code. -/
def fneedF (a b c d : Int) (xs : List Int) (m : Int) : Int × Int :=
  if okS ⟨a, b, c, d⟩ then (if termsP xs then (if inB m 0 60 then feedsG m xs 0 ⟨a, b, c, d⟩ [] else (0, 2)) else (0, 1)) else (0, 1)
theorem feedR_inv {s s' : St} {out out' : List Int} {t : Int} (hl : out.length ≤ 60) (h : feedR s out t = some (s', out')) : bdS s' = true ∧ out'.length ≤ 60 ∧ out.length ≤ out'.length ∧ (Det s → Det s') := by
  unfold feedR at h
  split at h
  · rename_i hb
    have h1 := emit_bd (most := 1073741824) (by omega) hl hb h
    have h2 := emit_keeps (most := 1073741824) (fun _ => True) (fun _ _ _ => trivial) hl trivial h
    exact ⟨h1, h2.2.1, h2.2.2, fun hd => (emit_keeps (most := 1073741824) Det (fun _ q hq => hq.em q) hl (hd.fed t) h).1⟩
  · cases h
theorem termsP_bdT {xs : List Int} {n : Nat} {t : Int} (h : termsP xs = true) (ht : xs[n]? = some t) : -1000000000 ≤ t ∧ t ≤ 1000000000 := by
  have := (termsP_iff.1 h).2 n t ht
  have := inB_iff.1 this
  unfold lowT at this
  split at this <;> omega
theorem ret_iiN {r : Int × Int} {x b : Int} (h : r = (x, b)) : Ending.returned (.tuple #[.int .i64 x, .int .i64 b]) = .returned (.tuple #[.int .i64 r.1, .int .i64 r.2]) := by subst h; rfl
theorem iok_eq {s : St} {b : Bool} (h : okS s = b) (w : World) : Calls Try.prog 105 #[.agg #[.int .i64 s.a, .int .i64 s.b, .int .i64 s.c, .int .i64 s.d]] w fun e w' => e = .returned (.bool b) ∧ Bl w w' := h ▸ iok_any s w
theorem sok_eq {s : St} {b : Bool} (h : okS s = b) (w : World) : Calls Try.prog 103 #[.agg #[.int .i64 s.a, .int .i64 s.b, .int .i64 s.c, .int .i64 s.d]] w fun e w' => e = .returned (.bool b) ∧ Bl w w' := h ▸ sok_any s w
theorem ivalT_eqN {va : Value} {xs : List Int} {b : Bool} (h : termsP xs = b) (w : World) (ha : Sl w va xs) (hl : xs.length ≤ 1048576) : Calls Try.prog 106 #[va] w fun e w' => e = .returned (.bool b) ∧ Bl w w' := h ▸ ivalT_any va xs w ha hl
theorem svalT_eqN {va : Value} {xs : List Int} {b : Bool} (h : termsP xs = b) (w : World) (ha : Sl w va xs) (hl : xs.length ≤ 1048576) : Calls Try.prog 116 #[va] w fun e w' => e = .returned (.bool b) ∧ Bl w w' := h ▸ svalT_any va xs w ha hl

set_option maxRecDepth 100000 in
set_option maxHeartbeats 6400000 in
theorem impl_FeedsNeeded (a b c d : Int) (va : Value) (xs : List Int) (m : Int) (w : World) (ha : Sl w va xs) (hl : xs.length ≤ 1048576) :
    Calls Try.prog 42 #[.agg #[.int .i64 a, .int .i64 b, .int .i64 c, .int .i64 d], va, .int .i64 m] w fun e w' => e = .returned (.tuple #[.int .i64 (fneedF a b c d xs m).1, .int .i64 (fneedF a b c d xs m).2]) ∧ Bl w w' := by
  have HA := Lib.hid ha
  obtain ⟨av, cv, rfl, _⟩ := ha.form'
  clear ha
  cases e1 : okS (⟨a, b, c, d⟩ : St) with
  | false =>
    have HR := Lib.hid (show fneedF a b c d xs m = (0, 1) by simp [fneedF, e1])
    have E1 := Lib.hid e1
    clear e1
    go_enter Try.func42, Try.ntmps42
    go_wp2_with fail
    refine (iok_eq (s := ⟨a, b, c, d⟩) E1.out _).mono ?_
    rintro e w1 ⟨rfl, hb1⟩
    have B1 : Bl w w1 := bl_call (bl_alloc (bl_refl _) _) hb1
    have xS_1 : Bx w1 (w.heap.size) #[.int .i64 a, .int .i64 b, .int .i64 c, .int .i64 d] := (Bx.new (b := w.heap.size) _ #[.int .i64 a, .int .i64 b, .int .i64 c, .int .i64 d] 52 (by first | rfl | simp)).below hb1
    obtain ⟨cS_1, fS_1, zS_1⟩ := xS_1.out
    go_wp2
    go_ret2
    exact ⟨ret_iiN HR.out, B1⟩
  | true =>
    have hok := okS_iff.1 e1
    cases e2 : termsP xs with
    | false =>
      have HR := Lib.hid (show fneedF a b c d xs m = (0, 1) by simp [fneedF, e1, e2])
      have E1 := Lib.hid e1
      clear e1
      have E2 := Lib.hid e2
      clear e2
      go_enter Try.func42, Try.ntmps42
      go_wp2_with fail
      refine (iok_eq (s := ⟨a, b, c, d⟩) E1.out _).mono ?_
      rintro e w1 ⟨rfl, hb1⟩
      have B1 : Bl w w1 := bl_call (bl_alloc (bl_refl _) _) hb1
      have xS_1 : Bx w1 (w.heap.size) #[.int .i64 a, .int .i64 b, .int .i64 c, .int .i64 d] := (Bx.new (b := w.heap.size) _ #[.int .i64 a, .int .i64 b, .int .i64 c, .int .i64 d] 52 (by first | rfl | simp)).below hb1
      obtain ⟨cS_1, fS_1, zS_1⟩ := xS_1.out
      go_wp2_with fail
      refine (ivalT_eqN E2.out _ (HA.out.below B1) hl).mono ?_
      rintro e w2 ⟨rfl, hb2⟩
      have B2 : Bl w w2 := bl_call B1 hb2
      have xS_2 : Bx w2 (w.heap.size) #[.int .i64 a, .int .i64 b, .int .i64 c, .int .i64 d] := xS_1.below hb2
      clear cS_1 fS_1 zS_1
      obtain ⟨cS_2, fS_2, zS_2⟩ := xS_2.out
      go_wp2
      go_ret2
      exact ⟨ret_iiN HR.out, B2⟩
    | true =>
      cases e3 : inB m 0 60 with
      | false =>
        have HR := Lib.hid (show fneedF a b c d xs m = (0, 2) by simp [fneedF, e1, e2, e3])
        have E1 := Lib.hid e1
        clear e1
        have E2 := Lib.hid e2
        clear e2
        have E3 := Lib.hid e3
        clear e3
        go_enter Try.func42, Try.ntmps42
        go_wp2_with fail
        refine (iok_eq (s := ⟨a, b, c, d⟩) E1.out _).mono ?_
        rintro e w1 ⟨rfl, hb1⟩
        have B1 : Bl w w1 := bl_call (bl_alloc (bl_refl _) _) hb1
        have xS_1 : Bx w1 (w.heap.size) #[.int .i64 a, .int .i64 b, .int .i64 c, .int .i64 d] := (Bx.new (b := w.heap.size) _ #[.int .i64 a, .int .i64 b, .int .i64 c, .int .i64 d] 52 (by first | rfl | simp)).below hb1
        obtain ⟨cS_1, fS_1, zS_1⟩ := xS_1.out
        go_wp2_with fail
        refine (ivalT_eqN E2.out _ (HA.out.below B1) hl).mono ?_
        rintro e w2 ⟨rfl, hb2⟩
        have B2 : Bl w w2 := bl_call B1 hb2
        have xS_2 : Bx w2 (w.heap.size) #[.int .i64 a, .int .i64 b, .int .i64 c, .int .i64 d] := xS_1.below hb2
        clear cS_1 fS_1 zS_1
        obtain ⟨cS_2, fS_2, zS_2⟩ := xS_2.out
        go_wp2_with fail
        refine (inB_eqS E3.out _).mono ?_
        rintro e w9 ⟨rfl, rfl⟩
        go_wp2
        go_ret2
        exact ⟨ret_iiN HR.out, B2⟩
      | true =>
        have hm := inB_iff.1 e3
        obtain ⟨R, hR⟩ : ∃ R, feedsG m xs 0 ⟨a, b, c, d⟩ [] = R := ⟨_, rfl⟩
        have HR := Lib.hid (show fneedF a b c d xs m = R by simp [fneedF, e1, e2, e3, hR])
        have HG := Lib.hid hR
        have HBD := Lib.hid hok.1
        have HDT := Lib.hid hok.2
        have HTP := Lib.hid e2
        clear hR hok
        have E1 := Lib.hid e1
        clear e1
        have E2 := Lib.hid e2
        clear e2
        have E3 := Lib.hid e3
        clear e3
        go_enter Try.func42, Try.ntmps42
        go_wp2_with fail
        refine (iok_eq (s := ⟨a, b, c, d⟩) E1.out _).mono ?_
        rintro e w1 ⟨rfl, hb1⟩
        have B1 : Bl w w1 := bl_call (bl_alloc (bl_refl _) _) hb1
        have xS_1 : Bx w1 (w.heap.size) #[.int .i64 a, .int .i64 b, .int .i64 c, .int .i64 d] := (Bx.new (b := w.heap.size) _ #[.int .i64 a, .int .i64 b, .int .i64 c, .int .i64 d] 52 (by first | rfl | simp)).below hb1
        obtain ⟨cS_1, fS_1, zS_1⟩ := xS_1.out
        go_wp2_with fail
        refine (ivalT_eqN E2.out _ (HA.out.below B1) hl).mono ?_
        rintro e w2 ⟨rfl, hb2⟩
        have B2 : Bl w w2 := bl_call B1 hb2
        have xS_2 : Bx w2 (w.heap.size) #[.int .i64 a, .int .i64 b, .int .i64 c, .int .i64 d] := xS_1.below hb2
        clear cS_1 fS_1 zS_1
        obtain ⟨cS_2, fS_2, zS_2⟩ := xS_2.out
        go_wp2_with fail
        refine (inB_eqS E3.out _).mono ?_
        rintro e w9 ⟨rfl, rfl⟩
        have hl60 := (termsP_iff.1 HTP.out).1
        go_wp2_with fail
        have hz := zS_2
        go_loopw [9] (fun s9 wr => ∃ (n : Nat) (s1 : St) (o1 : List Int) (v1 : Value), s9 = .int .i64 n ∧ n ≤ xs.length ∧ Bx wr w2.heap.size #[.int .i64 s1.a, .int .i64 s1.b, .int .i64 s1.c, .int .i64 s1.d, .bool false, v1] ∧ Own wr w2.heap.size v1 o1 ∧ Hid (feedsG m (xs.drop n) n s1 o1 = R) ∧ Hid (bdS s1 = true) ∧ Hid (Det s1) ∧ o1.length ≤ 60 ∧ Hid (v1.ownBlock ≠ some w2.heap.size) ∧ Bl w2 wr) (fun s9 _ => xs.length - (intOf s9).toNat)
        case atStart => exact ⟨0, ⟨a, b, c, d⟩, [], .slice none 0 0, rfl, Nat.zero_le _, Bx.new _ _ _ rfl, Own.nil _ _, HG, HBD, HDT, Nat.zero_le _, Lib.hid (by simp [Value.ownBlock]), bl_alloc (bl_refl _) _⟩
        case round =>
          obtain ⟨n, s1, o1, v1, rfl, hn, x1, h1, HE, HBB, HDD, hl1, HNE, Bq⟩ := hrel
          have HO := Lib.hid h1
          obtain ⟨oa, oc, rfl, _⟩ := h1.form
          clear h1 cS_2 fS_2 zS_2
          have Br : Bl w wr := bl_call B2 Bq
          obtain ⟨c1, f1, z1⟩ := x1.out
          go_wp2_with fail
          refine (lsize_any _ _ _ _ (by omega)).mono ?_
          rintro e w9 ⟨rfl, rfl⟩
          by_cases hom : (o1.length : Int) < m
          · by_cases hnx : n = xs.length
            · have HE2 := Lib.hid (feeds_end (s := s1) hom hnx)
              have cn : ((n : Int) == (xs.length : Int)) = true := by simp [hnx]
              clear hnx
              go_wp2_with fail
              refine (lsize_any _ _ _ _ (by omega)).mono ?_
              rintro e w9 ⟨rfl, rfl⟩
              go_wp2
              go_ret2
              exact ⟨ret_iiN (by rw [HR.out, ← HE.out, HE2.out]), Br⟩
            · have cn : ((n : Int) == (xs.length : Int)) = false := by rw [beq_eq_false_iff_ne]; omega
              have hnl : n < xs.length := by omega
              obtain ⟨tb, tof, rfl, t, ht, ct, _⟩ := HA.out.cellAt' Br (k := n) hnl
              have htb := termsP_bdT HTP.out ht
              have HT := Lib.hid ht
              clear ht hnx
              go_wp2_with fail
              refine (lsize_any _ _ _ _ (by omega)).mono ?_
              rintro e w9 ⟨rfl, rfl⟩
              go_wp2_with fail
              cases h6 : bdS (fedF s1 t) with
              | false =>
                have HE2 := Lib.hid (feeds_none hom HT.out (show feedR s1 o1 t = none from feedR_no h6))
                have H6 := Lib.hid h6
                clear h6
                go_cut [46] (fun s46 wx => s46 = .bool true ∧ Bl w2 wx)
                case first =>
                  go_region_with ((first | (go_at_call 108; go_must (refine (ifed_any s1 t _ HBB.out htb).mono ?_; rintro e w3 ⟨rfl, hb3⟩; have x3 := x1.drew.below hb3; have HO3 := Lib.hid (HO.out.drew.below hb3); have B3 : Bl w2 w3 := bl_call (bl_drew Bq) hb3; clear c1 f1; obtain ⟨c3, f3, z3⟩ := x3.out)) | (go_at_call 107; go_must (refine (iset_any (s' := fedF s1 t) x3 (.inr (HDD.out.fed t))).mono ?_; rintro e w4 ⟨rfl, x4, hu4⟩; rw [H6.out]; have HO4 := Lib.hid (HO3.out.upd hu4 HNE.out); have B4 := bl_upd B3 hu4 (Nat.le_refl _); clear c3 f3; obtain ⟨c4, f4, z4⟩ := x4.out))))
                  all_goals (go_wp2_with fail; go_meet; exact ⟨rfl, B4⟩)
                case rest =>
                  obtain ⟨rfl, BC⟩ := hcut
                  have BC2 : Bl w wc := bl_call B2 BC
                  clear c1 f1 z1
                  go_wp2
                  go_ret2
                  exact ⟨ret_iiN (by rw [HR.out, ← HE.out, HE2.out]), BC2⟩
              | true =>
                have hfe := feedR_yes (out := o1) h6
                have H6 := Lib.hid h6
                clear h6
                cases hem : emitF 1073741824 (fedF s1 t) o1 with
                | none =>
                  have HE2 := Lib.hid (feeds_none hom HT.out (show feedR s1 o1 t = none from hfe.trans hem))
                  have HEM := Lib.hid hem
                  clear hem hfe
                  go_cut [46] (fun s46 wx => s46 = .bool true ∧ Bl w2 wx)
                  case first =>
                    go_region_with ((first | (go_at_call 108; go_must (refine (ifed_any s1 t _ HBB.out htb).mono ?_; rintro e w3 ⟨rfl, hb3⟩; have x3 := x1.drew.below hb3; have HO3 := Lib.hid (HO.out.drew.below hb3); have B3 : Bl w2 w3 := bl_call (bl_drew Bq) hb3; clear c1 f1; obtain ⟨c3, f3, z3⟩ := x3.out)) | (go_at_call 107; go_must (refine (iset_any (s' := fedF s1 t) x3 (.inr (HDD.out.fed t))).mono ?_; rintro e w4 ⟨rfl, x4, hu4⟩; rw [H6.out]; have HO4 := Lib.hid (HO3.out.upd hu4 HNE.out); have B4 := bl_upd B3 hu4 (Nat.le_refl _); clear c3 f3; obtain ⟨c4, f4, z4⟩ := x4.out)) | (go_at_call 109; go_must (refine (iemit_any (s := fedF s1 t) (most := 1073741824) x4 HO4.out B4.size HNE.out H6.out (.inr (HDD.out.fed t)) hl1 (by omega)).mono ?_; rintro e w5 hE; rw [HEM.out] at hE; obtain ⟨hU5, rfl⟩ := hE; have B5 := bl_upv B4 hU5 (Nat.le_refl _) (fun k hk => (HO4.out.lt k hk).1); clear c4 f4))))
                    all_goals (go_wp2_with fail; go_meet; exact ⟨rfl, B5⟩)
                  case rest =>
                    obtain ⟨rfl, BC⟩ := hcut
                    have BC2 : Bl w wc := bl_call B2 BC
                    clear c1 f1 z1
                    go_wp2
                    go_ret2
                    exact ⟨ret_iiN (by rw [HR.out, ← HE.out, HE2.out]), BC2⟩
                | some r =>
                  obtain ⟨s2, o2⟩ := r
                  have HIN := Lib.hid (feedR_inv (s := s1) (t := t) hl1 (hfe.trans hem))
                  have HE2 := Lib.hid (show feedsG m (xs.drop (n + 1)) (n + 1) s2 o2 = R by rw [← feeds_some hom HT.out (show feedR s1 o1 t = some (s2, o2) from hfe.trans hem)]; exact HE.out)
                  have HEM := Lib.hid hem
                  clear hem hfe
                  go_cut [46] (fun s46 wx => s46 = .bool false ∧ ∃ v2 : Value, Bx wx w2.heap.size #[.int .i64 s2.a, .int .i64 s2.b, .int .i64 s2.c, .int .i64 s2.d, .bool false, v2] ∧ Own wx w2.heap.size v2 o2 ∧ Hid (v2.ownBlock ≠ some w2.heap.size) ∧ Bl w2 wx)
                  case first =>
                    go_region_with ((first | (go_at_call 108; go_must (refine (ifed_any s1 t _ HBB.out htb).mono ?_; rintro e w3 ⟨rfl, hb3⟩; have x3 := x1.drew.below hb3; have HO3 := Lib.hid (HO.out.drew.below hb3); have B3 : Bl w2 w3 := bl_call (bl_drew Bq) hb3; clear c1 f1; obtain ⟨c3, f3, z3⟩ := x3.out)) | (go_at_call 107; go_must (refine (iset_any (s' := fedF s1 t) x3 (.inr (HDD.out.fed t))).mono ?_; rintro e w4 ⟨rfl, x4, hu4⟩; rw [H6.out]; have HO4 := Lib.hid (HO3.out.upd hu4 HNE.out); have B4 := bl_upd B3 hu4 (Nat.le_refl _); clear c3 f3; obtain ⟨c4, f4, z4⟩ := x4.out)) | (go_at_call 109; go_must (refine (iemit_any (s := fedF s1 t) (most := 1073741824) x4 HO4.out B4.size HNE.out H6.out (.inr (HDD.out.fed t)) hl1 (by omega)).mono ?_; rintro e w5 hE; rw [HEM.out] at hE; obtain ⟨hU5, rfl, v2, x5, ho5, hr5⟩ := hE; have B5 := bl_upv B4 hU5 (Nat.le_refl _) (fun k hk => (HO4.out.lt k hk).1); clear c4 f4))))
                    all_goals (go_wp2_with fail; go_meet; exact ⟨rfl, v2, x5, ho5, Lib.hid (own_ne hr5 HNE.out z4), B5⟩)
                  case rest =>
                    obtain ⟨rfl, v2, x5, ho5, HNE5, BC⟩ := hcut
                    obtain ⟨w6, rfl⟩ : ∃ x : World, x = wc := ⟨_, rfl⟩
                    have HO5 := Lib.hid ho5
                    clear c1 f1 z1 ho5
                    go_wp2
                    go_roundw
                    case rel => exact ⟨n + 1, s2, o2, v2, by go_num, by omega, x5, HO5.out, HE2, Lib.hid HIN.out.1, Lib.hid (HIN.out.2.2.2 HDD.out), HIN.out.2.1, HNE5, BC⟩
                    case measure => clear HE2; simp only [intOf, Int.toNat_natCast]; omega
          · have HE2 := Lib.hid (feeds_done (xs := xs.drop n) (n := n) (s := s1) hom)
            go_wp2
            go_ret2
            exact ⟨ret_iiN (by rw [HR.out, ← HE.out, HE2.out]), Br⟩

end Go.Proofs.Ytgmofofokhlhnaa
