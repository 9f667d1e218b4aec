/- Some of the texts of this claim, joined in one file: TsM, SurdK. -/
import Derived.Test.YtgkelemfbmmgnaaGreatMSv33
import Derived.Test.YtgkelemfbmmgnaaGreatMSv20
import Derived.Test.YtgkelemfbmmgnaaGreatMSv15
import Derived.Test.YtgkelemfbmmgnaaGreatMSv13
/- Surds: the terms of a surd come again, and a source of them gives them: plain. Each theorem names its conditions. -/
namespace Go.Proofs.YtgkelemfbmmgnaaGreat
open Go.RowKit
set_option linter.unusedVariables false
set_option linter.unusedSimpArgs false

def nxS (s : Sud) : Sud × Bool := nxU s.1 s.2.1 s.2.2 (flS s)
theorem fiU_get {s : Sud} (xs : List Sud) : ∀ k j, fiU s xs k = some j → k ≤ j ∧ xs[j - k]? = some s := by
  induction xs with
  | nil => intro k j h; simp [fiU] at h
  | cons x xs ih =>
    intro k j h
    rw [fiU] at h
    split at h
    · rename_i e; injection h with h; subst h; simp [e]
    · have := ih _ _ h
      refine ⟨by omega, ?_⟩
      rw [show j - k = (j - (k + 1)) + 1 by omega, List.getElem?_cons_succ]
      exact this.2
/-- The place behind place i, where l places stand and the last leads back to k. -/
def nix (k l i : Nat) : Nat := if i + 1 < l then i + 1 else k
/-- The place of the term j. -/
def ixU (k l j : Nat) : Nat := if j < k then j else k + (j - k) % (l - k)
theorem ixU_lt {k l : Nat} (h : k < l) (j : Nat) : ixU k l j < l := by
  unfold ixU
  split
  · omega
  · have := Nat.mod_lt (j - k) (show l - k > 0 by omega); omega
theorem ixU_low {k l j : Nat} (h : j < l) : ixU k l j = j := by
  unfold ixU
  split
  · rfl
  · rw [Nat.mod_eq_of_lt (by omega)]; omega
theorem ixU_next {k l : Nat} (h : k < l) (j : Nat) : ixU k l (j + 1) = nix k l (ixU k l j) := by
  unfold nix
  by_cases h1 : j + 1 < k
  · have e1 : ixU k l (j + 1) = j + 1 := by rw [ixU, if_pos h1]
    have e2 : ixU k l j = j := by rw [ixU, if_pos (by omega)]
    rw [e1, e2, if_pos (by omega)]
  · by_cases h2 : j < k
    · have : j + 1 = k := by omega
      have e1 : ixU k l (j + 1) = k := by rw [ixU, if_neg h1, show j + 1 - k = 0 by omega, Nat.zero_mod]; omega
      have e2 : ixU k l j = j := by rw [ixU, if_pos h2]
      rw [e1, e2, if_pos (by omega)]; omega
    · rw [ixU, if_neg h1, ixU, if_neg h2, show j + 1 - k = (j - k) + 1 by omega]
      have hm := Nat.mod_lt (j - k) (show l - k > 0 by omega)
      by_cases h3 : (j - k) % (l - k) + 1 = l - k
      · rw [if_neg (by omega)]
        have : ((j - k) + 1) % (l - k) = 0 := by
          rw [Nat.add_mod, show (1 : Nat) = 1 from rfl]
          rcases Nat.lt_or_ge 1 (l - k) with q | q
          · rw [Nat.mod_eq_of_lt q, h3, Nat.mod_self]
          · have : l - k = 1 := by omega
            rw [this]; simp [Nat.mod_one]
        omega
      · rw [if_pos (by omega)]
        have : ((j - k) + 1) % (l - k) = (j - k) % (l - k) + 1 := by
          rw [Nat.add_mod, Nat.mod_eq_of_lt (show 1 < l - k by omega), Nat.mod_eq_of_lt (by omega)]
        omega
/-- The surds along the way: each leads to the next, the last back to place k. -/
structure Cyc (L : List Sud) (k from0 : Nat) : Prop where
  kl : k < L.length
  at_ : ∀ i, from0 ≤ i → i < L.length → ∃ x, L[i]? = some x ∧ (nxS x).2 = true ∧ L[nix k L.length i]? = some (nxS x).1
theorem wk_cyc (f : Nat) : ∀ (L : List Sud) (T : List Int) (s : Sud) (T' : List Int) (k : Nat), wkU f L T s = some (T', k) → ∃ M, T' = T ++ M.map flS ∧ Cyc (L ++ M) k L.length ∧ (L ++ M)[if L.length < (L ++ M).length then L.length else k]? = some s := by
  induction f with
  | zero => intro L T s T' k h; simp [wkU] at h
  | succ f ih =>
    intro L T s T' k h
    rw [wkU] at h
    split at h
    · rename_i k2 hk
      injection h with h; injection h with h1 h2; subst h1; subst h2
      have g := fiU_get _ _ _ hk
      have hl := fiU_lt _ _ _ hk
      refine ⟨[], by simp, ⟨by simp; omega, fun i h1 h2 => by simp at h2; omega⟩, ?_⟩
      simp only [List.append_nil, Nat.lt_irrefl, if_false]
      simpa using g.2
    · split at h
      · cases h
      · split at h
        · rename_i hn
          obtain ⟨M, hT, hC, hs⟩ := ih _ _ _ _ _ h
          refine ⟨s :: M, by rw [hT]; simp [flS], ⟨by have := hC.kl; simpa using this, ?_⟩, ?_⟩
          · intro i h1 h2
            have e : L ++ [s] ++ M = L ++ s :: M := by simp
            rw [e] at hC hs
            by_cases hi : i = L.length
            · subst hi
              refine ⟨s, by simp, hn, ?_⟩
              unfold nix
              simp only [List.length_append, List.length_singleton] at hs
              simp only [List.length_append]
              exact hs
            · exact hC.at_ i (by simp; omega) h2
          · rw [if_pos (by simp)]; simp
        · cases h
theorem wkF_cyc {s : Sud} {T : List Int} {k : Nat} (h : wkF [] [] s = some (T, k)) : ∃ L : List Sud, T = L.map flS ∧ k < L.length ∧ L[0]? = some s ∧ ∀ i, i < L.length → ∃ x, L[i]? = some x ∧ (nxS x).2 = true ∧ L[nix k L.length i]? = some (nxS x).1 := by
  obtain ⟨M, hT, hC, hs⟩ := wk_cyc _ _ _ _ _ _ h
  simp only [List.nil_append] at hT hC hs
  have := hC.kl
  rw [if_pos (by simp; omega)] at hs
  exact ⟨M, hT, hC.kl, hs, fun i hi => hC.at_ i (Nat.zero_le _) hi⟩
/-- The first n terms. -/
def tsL (T : List Int) (k n : Nat) : List Int := (List.range n).map fun j => T.getD (ixU k T.length j) 0
theorem tsL_len (T : List Int) (k n : Nat) : (tsL T k n).length = n := by simp [tsL]
theorem tsL_succ {T : List Int} {k n : Nat} {t : Int} (h : T[ixU k T.length n]? = some t) : tsL T k (n + 1) = tsL T k n ++ [t] := by
  unfold tsL
  rw [List.range_succ, List.map_append]
  simp [h]
/-- Twice the period behind the head are terms of the surd. -/
theorem tsL_twice {T : List Int} {k : Nat} (hk : k < T.length) : tsL T k (k + 2 * (T.length - k)) = T.take k ++ T.drop k ++ T.drop k := by
  apply List.ext_getElem?
  intro i
  by_cases h1 : i < k + 2 * (T.length - k)
  · have e1 : (tsL T k (k + 2 * (T.length - k)))[i]? = some (T.getD (ixU k T.length i) 0) := by
      unfold tsL
      rw [List.getElem?_map, List.getElem?_range h1]; rfl
    rw [e1]
    have hx := ixU_lt hk i
    rw [List.take_append_drop]
    by_cases h2 : i < T.length
    · rw [ixU_low h2, List.getElem?_append_left h2]; simp [h2]
    · rw [List.getElem?_append_right (by omega), List.getElem?_drop]
      have e2 : ixU k T.length i = k + (i - T.length) := by
        unfold ixU
        rw [if_neg (by omega), show i - k = (i - T.length) + (T.length - k) by omega, Nat.add_mod_right, Nat.mod_eq_of_lt (by omega)]
      rw [e2]
      have h3 : k + (i - T.length) < T.length := by omega
      simp [h3]
  · rw [List.getElem?_eq_none (by rw [tsL_len]; omega), List.getElem?_eq_none (by simp; omega)]
theorem term_srcU {T : List Int} {k : Nat} (hk : k < T.length) (j : Nat) : termP (srcU (T, k)) j = (T.getD (ixU k T.length j) 0, true) := by
  unfold termP srcU ixU
  have l1 : (T.take k).length = k := by simp; omega
  have l2 : (T.drop k).length = T.length - k := by simp
  simp only [l1, l2]
  by_cases h1 : j < k
  · rw [if_pos h1, if_pos h1]
    congr 1
    simp [List.getD_eq_getElem?_getD, List.getElem?_take, h1]
  · rw [if_neg h1, if_neg h1, if_neg (by omega)]
    congr 1
    have hm := Nat.mod_lt (j - k) (show T.length - k > 0 by omega)
    have hm2 : k + (j - k) % (T.length - k) < T.length := by omega
    simp [List.getD_eq_getElem?_getD, List.getElem?_replicate, hm, hm2]
theorem firstG_srcU {T : List Int} {k : Nat} (hk : k < T.length) (n : Nat) : ∀ j, firstG (srcU (T, k)) n j = (List.range' j n).map fun i => T.getD (ixU k T.length i) 0 := by
  induction n with
  | zero => intro j; rfl
  | succ n ih =>
    intro j
    rw [firstG, term_srcU hk j]
    simp only [if_true]
    rw [ih (j + 1), List.range'_succ, List.map_cons]
theorem first_srcU {T : List Int} {k : Nat} (hk : k < T.length) (n : Nat) : firstL (srcU (T, k)) n = tsL T k n := by
  unfold firstL tsL
  rw [firstG_srcU hk, List.range_eq_range']

end Go.Proofs.YtgkelemfbmmgnaaGreat

/- Surds: the program's head and period. Each theorem names its conditions. -/
namespace Go.Proofs.YtgkelemfbmmgnaaGreat
open Go.RowKit
set_option linter.unusedVariables false
set_option linter.unusedSimpArgs false

/-- What the program's periodOf gives. -/
def PeP (w : World) (R : Option (List Int × Nat)) (e : Ending) (w' : World) : Prop :=
  Bl w w' ∧ match R with
    | none => e = .returned (.tuple #[.slice none 0 0, .slice none 0 0, .bool false])
    | some r => r.2 ≤ r.1.length ∧ r.1.length ≤ 400 ∧ ∃ hv pv, e = .returned (.tuple #[hv, pv, .bool true]) ∧ Own w' w.heap.size hv (r.1.take r.2) ∧ Own w' w.heap.size pv (r.1.drop r.2) ∧ ∀ k, hv.ownBlock = some k → pv.ownBlock ≠ some k
theorem tk_low {T : List Int} {k a : Nat} {t : Int} (h : T[k]? = some t) (hk : k < a) : (T.take (k + 1)).take a = (T.take k).take a ++ [t] ∧ (T.take (k + 1)).drop a = (T.take k).drop a := by
  obtain ⟨hl, rfl⟩ := List.getElem?_eq_some_iff.1 h
  rw [List.take_succ_eq_append_getElem hl]
  refine ⟨by rw [List.take_of_length_le (l := T.take k ++ [T[k]]) (by simp; omega), List.take_of_length_le (l := T.take k) (by simp; omega)], ?_⟩
  rw [List.drop_of_length_le (l := T.take k ++ [T[k]]) (by simp; omega), List.drop_of_length_le (l := T.take k) (by simp; omega)]
theorem tk_high {T : List Int} {k a : Nat} {t : Int} (h : T[k]? = some t) (hk : ¬ k < a) : (T.take (k + 1)).take a = (T.take k).take a ∧ (T.take (k + 1)).drop a = (T.take k).drop a ++ [t] := by
  obtain ⟨hl, rfl⟩ := List.getElem?_eq_some_iff.1 h
  rw [List.take_succ_eq_append_getElem hl]
  refine ⟨by rw [List.take_append_of_le_length (by simp; omega)], ?_⟩
  rw [List.drop_append_of_le_length (by simp; omega)]
theorem R64_fl {p d q : Int} (h : okU p d q = true) : R64 (flU p d q) := by
  have := flU_bd h
  unfold R64; omega
set_option maxRecDepth 100000 in
set_option maxHeartbeats 12800000 in
theorem iper_any {p0 d0 q0 : Int} (w : World) (h0 : okU p0 d0 q0 = true) : Calls Tryz.prog 73 #[.agg #[.int .i64 p0, .int .i64 d0, .int .i64 q0]] w (PeP w (wkF [] [] (p0, d0, q0))) := by
  obtain ⟨R, hR⟩ : ∃ R, wkF [] [] (p0, d0, q0) = R := ⟨_, rfl⟩
  rw [hR]
  have HR := Lib.hid hR
  have H0 := Lib.hid h0
  clear hR h0
  go_enter Tryz.func73, Tryz.ntmps73
  go_wp2_with fail
  have B1 : Bl w (w.alloc (.cells #[.int .i64 p0, .int .i64 d0, .int .i64 q0] 33)) := (bl_alloc (bl_refl _) _)
  have xS_1 : Bx (w.alloc (.cells #[.int .i64 p0, .int .i64 d0, .int .i64 q0] 33)) (w.heap.size) #[.int .i64 p0, .int .i64 d0, .int .i64 q0] := (Bx.new (b := w.heap.size) _ #[.int .i64 p0, .int .i64 d0, .int .i64 q0] 33 (by first | rfl | simp))
  have zz1 : w.heap.size + 1 ≤ (w.alloc (.cells #[.int .i64 p0, .int .i64 d0, .int .i64 q0] 33)).heap.size := (by simp)
  generalize (w.alloc (.cells #[.int .i64 p0, .int .i64 d0, .int .i64 q0] 33)) = w1 at *
  obtain ⟨cS_1, fS_1, zS_1⟩ := xS_1.out
  refine (iwalk_any _ H0.out).mono ?_
  intro e w2 hW
  rw [HR.out] at hW
  obtain ⟨hb2, hW⟩ := hW
  have B2 := bl_call B1 hb2
  have hz1 : w.heap.size ≤ w1.heap.size := B1.size
  clear cS_1 fS_1 zS_1
  cases R with
  | none =>
    subst hW
    go_wp2
    refine bodyPost_ret (v := .tuple #[.slice none 0 0, .slice none 0 0, .bool false]) (by simp only [results, Tryz.results73]; go_simp) rfl ?_
    exact ⟨B2, rfl⟩
  | some r =>
    obtain ⟨T, a⟩ := r
    obtain ⟨lv, L, rfl, hL, hT, ha, hl4, hall⟩ := hW
    simp only at hT ha
    subst hT
    have HALL := Lib.hid hall
    have HA := Lib.hid hL.slU
    have HT := Lib.hid (show (L.map flS).length = L.length by simp)
    obtain ⟨av, cv, rfl, _⟩ := hL.form
    have hz2 : w.heap.size ≤ w2.heap.size := B2.size
    clear hall hL
    go_wp2_with fail
    go_loopw [8, 9, 22] (fun s8 s9 s22 wr => ∃ k : Nat, k ≤ L.length ∧ s22 = .int .i64 k ∧ Own wr w2.heap.size s8 (((L.map flS).take k).take a) ∧ Own wr w2.heap.size s9 (((L.map flS).take k).drop a) ∧ Hid (∀ k, s8.ownBlock = some k → s9.ownBlock ≠ some k) ∧ Bl w2 wr) (fun _ _ s22 _ => L.length - (intOf s22).toNat)
    case atStart => exact ⟨0, Nat.zero_le _, rfl, by simpa using Own.nil _ _, by simpa using Own.nil _ _, Lib.hid (fun k h => by simp [Value.ownBlock] at h), bl_refl _⟩
    case round =>
      obtain ⟨k, hk, rfl, hH, hP, HD, hB⟩ := hrel
      have HH := Lib.hid hH
      have HP := Lib.hid hP
      have hHl : (((L.map flS).take k).take a).length ≤ 400 := by simp; omega
      have hPl : (((L.map flS).take k).drop a).length ≤ 400 := by simp; omega
      obtain ⟨h1, hH1⟩ : ∃ h1, ((L.map flS).take k).take a = h1 := ⟨_, rfl⟩
      obtain ⟨g1, hP1⟩ : ∃ g1, ((L.map flS).take k).drop a = g1 := ⟨_, rfl⟩
      rw [hH1] at HH hH hHl
      rw [hP1] at HP hP hPl
      have HH1 := Lib.hid hH1
      have HP1 := Lib.hid hP1
      obtain ⟨ha, hc, rfl, _⟩ := hH.form
      obtain ⟨pa, pc, rfl, _⟩ := hP.form
      clear hH hP hH1 hP1
      by_cases hlt : k < L.length
      · obtain ⟨b, o, rfl, p, d, q, hx, c1, c2, c3⟩ := HA.out.cellAt hB hlt
        have HOK := Lib.hid (show okU p d q = true from HALL.out (p, d, q) (List.mem_of_getElem? hx))
        have HXX := Lib.hid (show (L.map flS)[k]? = some (flU p d q) by rw [List.getElem?_map, hx]; rfl)
        clear hx
        obtain ⟨t, ht⟩ : ∃ t, flU p d q = t := ⟨_, rfl⟩
        have HTT := Lib.hid ht
        have htR : R64 t := by rw [← ht]; exact R64_fl HOK.out
        clear ht
        have xN : Bx (wr.alloc (.cells #[.int .i64 p, .int .i64 d, .int .i64 q] 33)) wr.heap.size #[.int .i64 p, .int .i64 d, .int .i64 q] := Bx.new (b := wr.heap.size) wr _ 33 rfl
        have hwz : w2.heap.size ≤ wr.heap.size := hB.size
        obtain ⟨cN, fN, zN⟩ := xN.out
        by_cases hka : k < a
        · have hka' : (k : Int) < (a : Int) := by omega
          go_wp2_with fail
          refine (iflU_eq HTT.out _ HOK.out).mono ?_
          rintro e w5 ⟨rfl, hb5⟩
          have hBa := bl_alloc hB (.cells #[.int .i64 p, .int .i64 d, .int .i64 q] 33)
          have B5 := bl_call hBa hb5
          have z5 : w2.heap.size ≤ w5.heap.size := B5.size
          have HH5 := Lib.hid ((HH.out.below (bl_alloc (bl_refl _) (.cells #[.int .i64 p, .int .i64 d, .int .i64 q] 33))).below hb5)
          have HP5 := Lib.hid ((HP.out.below (bl_alloc (bl_refl _) (.cells #[.int .i64 p, .int .i64 d, .int .i64 q] 33))).below hb5)
          clear cN fN zN xN hBa
          go_wp2_with (at_builtin; refine wpList_append_one rfl _ _ rfl w2.heap.size _ h1 (by rfl) HH5.out t htR (by first | rfl | simp [Act.eval]) (by omega) (by omega) ?_; intro v' wn ho hg hloc; obtain ⟨a1, n1, rfl, _⟩ := ho.form)
          have hln : (h1 ++ [t]).length = h1.length + 1 := by simp
          rw [hln] at ho hloc
          have e2 := tk_low HXX.out hka
          have hPn := own_apartU HP5.out hg HD.out
          have Bn := bl_grown B5 hg (fun k hk => (HH5.out.lt k hk).1)
          go_wp2
          go_roundw
          case rel => exact ⟨k + 1, by omega, by go_num, by rw [e2.1, HH1.out, HTT.out]; exact ho, by rw [e2.2, HP1.out]; exact hPn, Lib.hid (dis_new hloc HD.out (fun k hk => by have := (HP5.out.lt k hk).2; omega)), Bn⟩
          case measure => simp only [intOf]; omega
        · have hka' : ¬ (k : Int) < (a : Int) := by omega
          go_wp2_with fail
          refine (iflU_eq HTT.out _ HOK.out).mono ?_
          rintro e w5 ⟨rfl, hb5⟩
          have hBa := bl_alloc hB (.cells #[.int .i64 p, .int .i64 d, .int .i64 q] 33)
          have B5 := bl_call hBa hb5
          have z5 : w2.heap.size ≤ w5.heap.size := B5.size
          have HH5 := Lib.hid ((HH.out.below (bl_alloc (bl_refl _) (.cells #[.int .i64 p, .int .i64 d, .int .i64 q] 33))).below hb5)
          have HP5 := Lib.hid ((HP.out.below (bl_alloc (bl_refl _) (.cells #[.int .i64 p, .int .i64 d, .int .i64 q] 33))).below hb5)
          clear cN fN zN xN hBa
          go_wp2_with (at_builtin; refine wpList_append_one rfl _ _ rfl w2.heap.size _ g1 (by rfl) HP5.out t htR (by first | rfl | simp [Act.eval]) (by omega) (by omega) ?_; intro v' wn ho hg hloc; obtain ⟨a1, n1, rfl, _⟩ := ho.form)
          have hln : (g1 ++ [t]).length = g1.length + 1 := by simp
          rw [hln] at ho hloc
          have e2 := tk_high HXX.out hka
          have hHn := own_apartU HH5.out hg (dis_sym HD.out)
          have Bn := bl_grown B5 hg (fun k hk => (HP5.out.lt k hk).1)
          go_wp2
          go_roundw
          case rel => exact ⟨k + 1, by omega, by go_num, by rw [e2.1, HH1.out]; exact hHn, by rw [e2.2, HP1.out, HTT.out]; exact ho, Lib.hid (dis_sym (dis_new hloc (dis_sym HD.out) (fun k hk => by have := (HH5.out.lt k hk).2; omega))), Bn⟩
          case measure => simp only [intOf]; omega
      · obtain rfl : k = L.length := by omega
        have e1 : (L.map flS).take L.length = L.map flS := List.take_of_length_le (by simp)
        have HE1 := Lib.hid e1
        clear e1
        go_wp2
        refine bodyPost_ret (v := .tuple #[.slice ha h1.length hc, .slice pa g1.length pc, .bool true]) (by simp only [results, Tryz.results73]; go_simp) rfl ?_
        have hh := HH1.out
        have hg := HP1.out
        rw [HE1.out] at hh hg
        exact ⟨bl_call B2 hB, (by show a ≤ (L.map flS).length; have := HT.out; omega), (by show (L.map flS).length ≤ 400; have := HT.out; omega), _, _, rfl, (by show Own wr w.heap.size _ ((L.map flS).take a); rw [hh]; exact HH.out.mono hz2), (by show Own wr w.heap.size _ ((L.map flS).drop a); rw [hg]; exact HP.out.mono hz2), HD.out⟩

set_option maxRecDepth 100000 in
set_option maxHeartbeats 3200000 in
theorem iperc_bad {p d q : Int} (w : World) (h : okU p d q = false) : Calls Tryz.prog 33 #[.agg #[.int .i64 p, .int .i64 d, .int .i64 q]] w fun e w' => e = .returned (.tuple #[.slice none 0 0, .slice none 0 0, .int .i64 1]) ∧ Bl w w' := by
  have E := Lib.hid h
  clear h
  go_enter Tryz.func33, Tryz.ntmps33
  go_wp2_with fail
  have B1 : Bl w (w.alloc (.cells #[.int .i64 p, .int .i64 d, .int .i64 q] 33)) := (bl_alloc (bl_refl _) _)
  have xS_1 : Bx (w.alloc (.cells #[.int .i64 p, .int .i64 d, .int .i64 q] 33)) (w.heap.size) #[.int .i64 p, .int .i64 d, .int .i64 q] := (Bx.new (b := w.heap.size) _ #[.int .i64 p, .int .i64 d, .int .i64 q] 33 (by first | rfl | simp))
  have zz1 : w.heap.size + 1 ≤ (w.alloc (.cells #[.int .i64 p, .int .i64 d, .int .i64 q] 33)).heap.size := (by simp)
  generalize (w.alloc (.cells #[.int .i64 p, .int .i64 d, .int .i64 q] 33)) = w1 at *
  obtain ⟨cS_1, fS_1, zS_1⟩ := xS_1.out
  refine (iokU_eq E.out _).mono ?_
  rintro e w2 ⟨rfl, hb2⟩
  have B2 : Bl w w2 := bl_call B1 hb2
  have xS_2 : Bx w2 (w.heap.size) #[.int .i64 p, .int .i64 d, .int .i64 q] := xS_1.below hb2
  clear cS_1 fS_1 zS_1
  obtain ⟨cS_2, fS_2, zS_2⟩ := xS_2.out
  go_wp2
  refine bodyPost_ret (v := .tuple #[.slice none 0 0, .slice none 0 0, .int .i64 1]) (by simp only [results, Tryz.results33]; go_simp) rfl ?_
  exact ⟨rfl, B2⟩

set_option maxRecDepth 100000 in
set_option maxHeartbeats 3200000 in
theorem iperc_full {p d q : Int} (w : World) (h : okU p d q = true) (hw : wkF [] [] (p, d, q) = none) : Calls Tryz.prog 33 #[.agg #[.int .i64 p, .int .i64 d, .int .i64 q]] w fun e w' => e = .returned (.tuple #[.slice none 0 0, .slice none 0 0, .int .i64 5]) ∧ Bl w w' := by
  have E := Lib.hid h
  have HW := Lib.hid hw
  clear h hw
  go_enter Tryz.func33, Tryz.ntmps33
  go_wp2_with fail
  have B1 : Bl w (w.alloc (.cells #[.int .i64 p, .int .i64 d, .int .i64 q] 33)) := (bl_alloc (bl_refl _) _)
  have xS_1 : Bx (w.alloc (.cells #[.int .i64 p, .int .i64 d, .int .i64 q] 33)) (w.heap.size) #[.int .i64 p, .int .i64 d, .int .i64 q] := (Bx.new (b := w.heap.size) _ #[.int .i64 p, .int .i64 d, .int .i64 q] 33 (by first | rfl | simp))
  have zz1 : w.heap.size + 1 ≤ (w.alloc (.cells #[.int .i64 p, .int .i64 d, .int .i64 q] 33)).heap.size := (by simp)
  generalize (w.alloc (.cells #[.int .i64 p, .int .i64 d, .int .i64 q] 33)) = w1 at *
  obtain ⟨cS_1, fS_1, zS_1⟩ := xS_1.out
  refine (iokU_eq E.out _).mono ?_
  rintro e w2 ⟨rfl, hb2⟩
  have B2 : Bl w w2 := bl_call B1 hb2
  have xS_2 : Bx w2 (w.heap.size) #[.int .i64 p, .int .i64 d, .int .i64 q] := xS_1.below hb2
  clear cS_1 fS_1 zS_1
  obtain ⟨cS_2, fS_2, zS_2⟩ := xS_2.out
  go_wp2_with fail
  refine (iper_any _ E.out).mono ?_
  rintro e w9 ⟨hb9, hm⟩
  rw [HW.out] at hm
  have hm : e = _ := hm
  subst hm
  go_wp2
  refine bodyPost_ret (v := .tuple #[.slice none 0 0, .slice none 0 0, .int .i64 5]) (by simp only [results, Tryz.results33]; go_simp) rfl ?_
  exact ⟨rfl, bl_call B2 hb9⟩

set_option maxRecDepth 100000 in
set_option maxHeartbeats 3200000 in
theorem iperc_ok {p d q : Int} (w : World) {T : List Int} {k : Nat} (h : okU p d q = true) (hw : wkF [] [] (p, d, q) = some (T, k)) : Calls Tryz.prog 33 #[.agg #[.int .i64 p, .int .i64 d, .int .i64 q]] w fun e w' => ∃ hv pv, e = .returned (.tuple #[hv, pv, .int .i64 0]) ∧ k ≤ T.length ∧ T.length ≤ 400 ∧ Own w' w.heap.size hv (T.take k) ∧ Own w' w.heap.size pv (T.drop k) ∧ (∀ j, hv.ownBlock = some j → pv.ownBlock ≠ some j) ∧ Bl w w' := by
  have E := Lib.hid h
  have HW := Lib.hid hw
  clear h hw
  go_enter Tryz.func33, Tryz.ntmps33
  go_wp2_with fail
  have B1 : Bl w (w.alloc (.cells #[.int .i64 p, .int .i64 d, .int .i64 q] 33)) := (bl_alloc (bl_refl _) _)
  have xS_1 : Bx (w.alloc (.cells #[.int .i64 p, .int .i64 d, .int .i64 q] 33)) (w.heap.size) #[.int .i64 p, .int .i64 d, .int .i64 q] := (Bx.new (b := w.heap.size) _ #[.int .i64 p, .int .i64 d, .int .i64 q] 33 (by first | rfl | simp))
  have zz1 : w.heap.size + 1 ≤ (w.alloc (.cells #[.int .i64 p, .int .i64 d, .int .i64 q] 33)).heap.size := (by simp)
  generalize (w.alloc (.cells #[.int .i64 p, .int .i64 d, .int .i64 q] 33)) = w1 at *
  obtain ⟨cS_1, fS_1, zS_1⟩ := xS_1.out
  refine (iokU_eq E.out _).mono ?_
  rintro e w2 ⟨rfl, hb2⟩
  have B2 : Bl w w2 := bl_call B1 hb2
  have xS_2 : Bx w2 (w.heap.size) #[.int .i64 p, .int .i64 d, .int .i64 q] := xS_1.below hb2
  clear cS_1 fS_1 zS_1
  obtain ⟨cS_2, fS_2, zS_2⟩ := xS_2.out
  go_wp2_with fail
  refine (iper_any _ E.out).mono ?_
  rintro e w9 ⟨hb9, hm⟩
  rw [HW.out] at hm
  obtain ⟨h1, h2, hv, pv, rfl, h3, h4, h5⟩ := hm
  go_wp2
  refine bodyPost_ret (v := .tuple #[hv, pv, .int .i64 0]) (by simp only [results, Tryz.results33]; go_simp) rfl ?_
  exact ⟨hv, pv, rfl, h1, h2, h3.mono (by have := B2.size; omega), h4.mono (by have := B2.size; omega), h5, bl_call B2 hb9⟩
theorem ivalid_eqU {h p g : Value} {s : Src} {b : Bool} (e : okSrc s = b) (w : World) (ha : SlS w h p g s) : Calls Tryz.prog 29 #[.agg #[h, p, g]] w fun e w' => e = .returned (.bool b) ∧ Bl w w' := e ▸ ivalid_any h p g s w ha
set_option maxRecDepth 100000 in
set_option maxHeartbeats 12800000 in
theorem impl_SourceOfSurd (p d q : Int) (w : World) : Calls Tryz.prog 9 #[.agg #[.int .i64 p, .int .i64 d, .int .i64 q]] w (SkP (surdF p d q) w) := by
  cases hok : okU p d q with
  | false =>
    have E := Lib.hid hok
    have HR := Lib.hid (surdF_bad hok)
    clear hok
    go_enter Tryz.func9, Tryz.ntmps9
    go_wp2_with fail
    have B1 : Bl w ((w.alloc (.cells #[.int .i64 p, .int .i64 d, .int .i64 q] 33)).alloc (.cells #[.slice none 0 0, .slice none 0 0, .slice none 0 0] 29)) := (bl_alloc (bl_alloc (bl_refl _) _) _)
    have xS_1 : Bx ((w.alloc (.cells #[.int .i64 p, .int .i64 d, .int .i64 q] 33)).alloc (.cells #[.slice none 0 0, .slice none 0 0, .slice none 0 0] 29)) (w.heap.size) #[.int .i64 p, .int .i64 d, .int .i64 q] := ((Bx.new (b := w.heap.size) _ #[.int .i64 p, .int .i64 d, .int .i64 q] 33 (by first | rfl | simp)).alloc _)
    have xR_1 : Bx ((w.alloc (.cells #[.int .i64 p, .int .i64 d, .int .i64 q] 33)).alloc (.cells #[.slice none 0 0, .slice none 0 0, .slice none 0 0] 29)) (w.heap.size + 1) #[.slice none 0 0, .slice none 0 0, .slice none 0 0] := (Bx.new (b := w.heap.size + 1) _ #[.slice none 0 0, .slice none 0 0, .slice none 0 0] 29 (by first | rfl | simp))
    have zz1 : w.heap.size + 2 ≤ ((w.alloc (.cells #[.int .i64 p, .int .i64 d, .int .i64 q] 33)).alloc (.cells #[.slice none 0 0, .slice none 0 0, .slice none 0 0] 29)).heap.size := (by simp)
    generalize ((w.alloc (.cells #[.int .i64 p, .int .i64 d, .int .i64 q] 33)).alloc (.cells #[.slice none 0 0, .slice none 0 0, .slice none 0 0] 29)) = w1 at *
    obtain ⟨cS_1, fS_1, zS_1⟩ := xS_1.out
    obtain ⟨cR_1, fR_1, zR_1⟩ := xR_1.out
    refine (iperc_bad _ E.out).mono ?_
    rintro e w2 ⟨rfl, hb2⟩
    have B2 : Bl w w2 := bl_call B1 hb2
    have xS_2 : Bx w2 (w.heap.size) #[.int .i64 p, .int .i64 d, .int .i64 q] := xS_1.below hb2
    have xR_2 : Bx w2 (w.heap.size + 1) #[.slice none 0 0, .slice none 0 0, .slice none 0 0] := xR_1.below hb2
    clear cS_1 fS_1 zS_1 cR_1 fR_1 zR_1
    obtain ⟨cS_2, fS_2, zS_2⟩ := xS_2.out
    obtain ⟨cR_2, fR_2, zR_2⟩ := xR_2.out
    go_wp2
    refine bodyPost_ret (v := .tuple #[.agg #[.slice none 0 0, .slice none 0 0, .slice none 0 0], .int .i64 1]) (by simp only [results, Tryz.results9]; go_simp) rfl ?_
    exact skp_no HR.out (bl_set (bl_set (bl_set B2 (p := ⟨w.heap.size + 1, 0, none⟩) (by first | (simp; done) | (simp; omega)) _) (p := ⟨w.heap.size + 1, 1, none⟩) (by first | (simp; done) | (simp; omega)) _) (p := ⟨w.heap.size + 1, 2, none⟩) (by first | (simp; done) | (simp; omega)) _)
  | true =>
    cases hw : wkF [] [] (p, d, q) with
    | none =>
      have E := Lib.hid hok
      have HW := Lib.hid hw
      have HR := Lib.hid (surdF_full hok hw)
      clear hok hw
      go_enter Tryz.func9, Tryz.ntmps9
      go_wp2_with fail
      have B1 : Bl w ((w.alloc (.cells #[.int .i64 p, .int .i64 d, .int .i64 q] 33)).alloc (.cells #[.slice none 0 0, .slice none 0 0, .slice none 0 0] 29)) := (bl_alloc (bl_alloc (bl_refl _) _) _)
      have xS_1 : Bx ((w.alloc (.cells #[.int .i64 p, .int .i64 d, .int .i64 q] 33)).alloc (.cells #[.slice none 0 0, .slice none 0 0, .slice none 0 0] 29)) (w.heap.size) #[.int .i64 p, .int .i64 d, .int .i64 q] := ((Bx.new (b := w.heap.size) _ #[.int .i64 p, .int .i64 d, .int .i64 q] 33 (by first | rfl | simp)).alloc _)
      have xR_1 : Bx ((w.alloc (.cells #[.int .i64 p, .int .i64 d, .int .i64 q] 33)).alloc (.cells #[.slice none 0 0, .slice none 0 0, .slice none 0 0] 29)) (w.heap.size + 1) #[.slice none 0 0, .slice none 0 0, .slice none 0 0] := (Bx.new (b := w.heap.size + 1) _ #[.slice none 0 0, .slice none 0 0, .slice none 0 0] 29 (by first | rfl | simp))
      have zz1 : w.heap.size + 2 ≤ ((w.alloc (.cells #[.int .i64 p, .int .i64 d, .int .i64 q] 33)).alloc (.cells #[.slice none 0 0, .slice none 0 0, .slice none 0 0] 29)).heap.size := (by simp)
      generalize ((w.alloc (.cells #[.int .i64 p, .int .i64 d, .int .i64 q] 33)).alloc (.cells #[.slice none 0 0, .slice none 0 0, .slice none 0 0] 29)) = w1 at *
      obtain ⟨cS_1, fS_1, zS_1⟩ := xS_1.out
      obtain ⟨cR_1, fR_1, zR_1⟩ := xR_1.out
      refine (iperc_full _ E.out HW.out).mono ?_
      rintro e w2 ⟨rfl, hb2⟩
      have B2 : Bl w w2 := bl_call B1 hb2
      have xS_2 : Bx w2 (w.heap.size) #[.int .i64 p, .int .i64 d, .int .i64 q] := xS_1.below hb2
      have xR_2 : Bx w2 (w.heap.size + 1) #[.slice none 0 0, .slice none 0 0, .slice none 0 0] := xR_1.below hb2
      clear cS_1 fS_1 zS_1 cR_1 fR_1 zR_1
      obtain ⟨cS_2, fS_2, zS_2⟩ := xS_2.out
      obtain ⟨cR_2, fR_2, zR_2⟩ := xR_2.out
      go_wp2
      refine bodyPost_ret (v := .tuple #[.agg #[.slice none 0 0, .slice none 0 0, .slice none 0 0], .int .i64 5]) (by simp only [results, Tryz.results9]; go_simp) rfl ?_
      exact skp_no HR.out (bl_set (bl_set (bl_set B2 (p := ⟨w.heap.size + 1, 0, none⟩) (by first | (simp; done) | (simp; omega)) _) (p := ⟨w.heap.size + 1, 1, none⟩) (by first | (simp; done) | (simp; omega)) _) (p := ⟨w.heap.size + 1, 2, none⟩) (by first | (simp; done) | (simp; omega)) _)
    | some r =>
      obtain ⟨T, k⟩ := r
      have E := Lib.hid hok
      have HW := Lib.hid hw
      have HRN := Lib.hid (surdF_no hok hw)
      have HRY := Lib.hid (surdF_yes hok hw)
      clear hok hw
      go_enter Tryz.func9, Tryz.ntmps9
      go_wp2_with fail
      have B1 : Bl w ((w.alloc (.cells #[.int .i64 p, .int .i64 d, .int .i64 q] 33)).alloc (.cells #[.slice none 0 0, .slice none 0 0, .slice none 0 0] 29)) := (bl_alloc (bl_alloc (bl_refl _) _) _)
      have xS_1 : Bx ((w.alloc (.cells #[.int .i64 p, .int .i64 d, .int .i64 q] 33)).alloc (.cells #[.slice none 0 0, .slice none 0 0, .slice none 0 0] 29)) (w.heap.size) #[.int .i64 p, .int .i64 d, .int .i64 q] := ((Bx.new (b := w.heap.size) _ #[.int .i64 p, .int .i64 d, .int .i64 q] 33 (by first | rfl | simp)).alloc _)
      have xR_1 : Bx ((w.alloc (.cells #[.int .i64 p, .int .i64 d, .int .i64 q] 33)).alloc (.cells #[.slice none 0 0, .slice none 0 0, .slice none 0 0] 29)) (w.heap.size + 1) #[.slice none 0 0, .slice none 0 0, .slice none 0 0] := (Bx.new (b := w.heap.size + 1) _ #[.slice none 0 0, .slice none 0 0, .slice none 0 0] 29 (by first | rfl | simp))
      have zz1 : w.heap.size + 2 ≤ ((w.alloc (.cells #[.int .i64 p, .int .i64 d, .int .i64 q] 33)).alloc (.cells #[.slice none 0 0, .slice none 0 0, .slice none 0 0] 29)).heap.size := (by simp)
      generalize ((w.alloc (.cells #[.int .i64 p, .int .i64 d, .int .i64 q] 33)).alloc (.cells #[.slice none 0 0, .slice none 0 0, .slice none 0 0] 29)) = w1 at *
      obtain ⟨cS_1, fS_1, zS_1⟩ := xS_1.out
      obtain ⟨cR_1, fR_1, zR_1⟩ := xR_1.out
      refine (iperc_ok _ E.out HW.out).mono ?_
      rintro e w2 ⟨hv, pv, rfl, hkT, hT4, o1, o2, hdis, hb2⟩
      have B2 : Bl w w2 := bl_call B1 hb2
      have xS_2 : Bx w2 (w.heap.size) #[.int .i64 p, .int .i64 d, .int .i64 q] := xS_1.below hb2
      have xR_2 : Bx w2 (w.heap.size + 1) #[.slice none 0 0, .slice none 0 0, .slice none 0 0] := xR_1.below hb2
      clear cS_1 fS_1 zS_1 cR_1 fR_1 zR_1
      obtain ⟨cS_2, fS_2, zS_2⟩ := xS_2.out
      obtain ⟨cR_2, fR_2, zR_2⟩ := xR_2.out
      have hlt : (T.take k).length = k := by rw [List.length_take]; omega
      have hld : (T.drop k).length = T.length - k := by rw [List.length_drop]
      obtain ⟨a1, c1, rfl, _⟩ := o1.form
      obtain ⟨a2, c2, rfl, _⟩ := o2.form
      rw [hlt] at o1 hdis ⊢
      rw [hld] at o2 hdis ⊢
      have HAP : Hid (Apart (.slice a1 k c1) (.slice a2 (T.length - k) c2)) := Lib.hid (fun j e q => hdis j e q)
      have O1 := Lib.hid o1
      have O2 := Lib.hid o2
      have zbk : w1.heap.size ≤ w2.heap.size := hb2.size
      have hRl : w.heap.size + 1 < w2.heap.size := xR_2.out.2.2
      have hRl0 : w.heap.size + 1 < w1.heap.size := by omega
      have hwz : w.heap.size ≤ w1.heap.size := by omega
      clear hlt hld o1 o2 hdis
      have hn0 : (0 : Int) ≤ ((T.length - k : Nat) : Int) := by omega
      obtain ⟨i0, hi, hz0, hz1, hz2⟩ := info_parts info_i64
      go_wp2_with (at_make; refine wpList_make_full _ rfl _ _ 27 rfl w1.heap.size 2 i0 (.int .i64 0) 1 Tryz.underlying27 hi hz0 hz1 .i64 .i64 _ _ (T.length - k) rfl rfl rfl rfl ?c1 ?c2 ?c3 ?_)
      case c1 => rw [hz2]; omega
      case c2 => unfold maxLen; omega
      case c3 => exact zbk
      intro w5 hown5 hgrow5
      have hb5 : Bl w2 w5 := below_of_grown hgrow5
      have o3 : Own w5 w1.heap.size (.slice (some ⟨w2.heap.size, 0, none⟩) (T.length - k) (T.length - k)) (List.replicate (T.length - k) 0) := ⟨by simpa [toList_madeCells_one] using hown5, fun x hx => by have := List.eq_of_mem_replicate hx; subst this; unfold R64; omega⟩
      have O3 := Lib.hid o3
      have hs5 : w2.heap.size + 1 ≤ w5.heap.size := by have := (o3.lt w2.heap.size rfl).2; omega
      have xR5 := xR_2.below hb5
      have B5 := bl_call B2 hb5
      have A13 : Apart (.slice a1 k c1) (.slice (some ⟨w2.heap.size, 0, none⟩) (T.length - k) (T.length - k)) := fun j e q => by
        have := (O1.out.lt j e).2
        have : w2.heap.size = j := by injection q
        omega
      have A23 : Apart (.slice a2 (T.length - k) c2) (.slice (some ⟨w2.heap.size, 0, none⟩) (T.length - k) (T.length - k)) := fun j e q => by
        have := (O2.out.lt j e).2
        have : w2.heap.size = j := by injection q
        omega
      have OS := Lib.hid (show OwnS w5 w1.heap.size (.slice a1 k c1) (.slice a2 (T.length - k) c2) (.slice (some ⟨w2.heap.size, 0, none⟩) (T.length - k) (T.length - k)) (srcU (T, k)) from ⟨O1.out.below hb5, O2.out.below hb5, O3.out, HAP.out, A13, A23⟩)
      clear A13 A23 O1 O2 O3 o3 hown5 hgrow5 cS_2 fS_2 zS_2 cR_2 fR_2 zR_2
      generalize w2.heap.size = y0 at *
      obtain ⟨cR, fR, zR⟩ := xR5.out
      go_wp2_with fail
      have xY : Bx (w5.alloc (.cells #[.slice a1 k c1, .slice a2 (T.length - k) c2, .slice (some ⟨y0, 0, none⟩) (T.length - k) (T.length - k)] 29)) w5.heap.size #[.slice a1 k c1, .slice a2 (T.length - k) c2, .slice (some ⟨y0, 0, none⟩) (T.length - k) (T.length - k)] := Bx.new (b := w5.heap.size) w5 _ 29 rfl
      have xR6 := xR5.alloc (.cells #[.slice a1 k c1, .slice a2 (T.length - k) c2, .slice (some ⟨y0, 0, none⟩) (T.length - k) (T.length - k)] 29)
      have OS6 := Lib.hid (OS.out.below (bl_alloc (bl_refl _) (.cells #[.slice a1 k c1, .slice a2 (T.length - k) c2, .slice (some ⟨y0, 0, none⟩) (T.length - k) (T.length - k)] 29)))
      have B6 := bl_alloc B5 (.cells #[.slice a1 k c1, .slice a2 (T.length - k) c2, .slice (some ⟨y0, 0, none⟩) (T.length - k) (T.length - k)] 29)
      clear cR fR zR
      generalize w5.alloc (.cells #[.slice a1 k c1, .slice a2 (T.length - k) c2, .slice (some ⟨y0, 0, none⟩) (T.length - k) (T.length - k)] 29) = w6 at *
      cases hsrc : okSrc (srcU (T, k)) with
      | false =>
        have HS := Lib.hid hsrc
        clear hsrc
        refine (ivalid_eqU HS.out _ OS6.out.sl).mono ?_
        rintro e w7 ⟨rfl, hb7⟩
        have B7 := bl_call B6 hb7
        obtain ⟨cR, fR, zR⟩ := (xR6.below hb7).out
        go_wp2
        refine bodyPost_ret (v := .tuple #[.agg #[.slice none 0 0, .slice none 0 0, .slice none 0 0], .int .i64 5]) (by simp only [results, Tryz.results9]; go_simp) rfl ?_
        exact skp_no (HRN.out HS.out) (bl_set (bl_set (bl_set B7 (p := ⟨w.heap.size + 1, 0, none⟩) (by first | (simp; done) | (simp; omega)) _) (p := ⟨w.heap.size + 1, 1, none⟩) (by first | (simp; done) | (simp; omega)) _) (p := ⟨w.heap.size + 1, 2, none⟩) (by first | (simp; done) | (simp; omega)) _)
      | true =>
        have HS := Lib.hid hsrc
        clear hsrc
        refine (ivalid_eqU HS.out _ OS6.out.sl).mono ?_
        rintro e w7 ⟨rfl, hb7⟩
        have B7 := bl_call B6 hb7
        obtain ⟨cR, fR, zR⟩ := (xR6.below hb7).out
        obtain ⟨cY, fY, zY⟩ := (xY.below hb7).out
        have OS7 := OS6.out.below hb7
        go_wp2
        refine bodyPost_ret (v := .tuple #[.agg #[.slice a1 k c1, .slice a2 (T.length - k) c2, .slice (some ⟨y0, 0, none⟩) (T.length - k) (T.length - k)], .int .i64 0]) (by simp only [results, Tryz.results9]; go_simp) rfl ?_
        exact skp_yes (HRY.out HS.out) (OwnS.mono (B := w1.heap.size) ⟨(own_farU (own_farU (own_farU OS7.1 (p := ⟨w.heap.size + 1, 0, none⟩) (fun j hj => by have := (OS7.1.lt j hj).1; simp; omega) _) (p := ⟨w.heap.size + 1, 1, none⟩) (fun j hj => by have := (OS7.1.lt j hj).1; simp; omega) _) (p := ⟨w.heap.size + 1, 2, none⟩) (fun j hj => by have := (OS7.1.lt j hj).1; simp; omega) _), (own_farU (own_farU (own_farU OS7.2.1 (p := ⟨w.heap.size + 1, 0, none⟩) (fun j hj => by have := (OS7.2.1.lt j hj).1; simp; omega) _) (p := ⟨w.heap.size + 1, 1, none⟩) (fun j hj => by have := (OS7.2.1.lt j hj).1; simp; omega) _) (p := ⟨w.heap.size + 1, 2, none⟩) (fun j hj => by have := (OS7.2.1.lt j hj).1; simp; omega) _), (own_farU (own_farU (own_farU OS7.2.2.1 (p := ⟨w.heap.size + 1, 0, none⟩) (fun j hj => by have := (OS7.2.2.1.lt j hj).1; simp; omega) _) (p := ⟨w.heap.size + 1, 1, none⟩) (fun j hj => by have := (OS7.2.2.1.lt j hj).1; simp; omega) _) (p := ⟨w.heap.size + 1, 2, none⟩) (fun j hj => by have := (OS7.2.2.1.lt j hj).1; simp; omega) _), OS7.2.2.2⟩ hwz) (bl_set (bl_set (bl_set B7 (p := ⟨w.heap.size + 1, 0, none⟩) (by first | (simp; done) | (simp; omega)) _) (p := ⟨w.heap.size + 1, 1, none⟩) (by first | (simp; done) | (simp; omega)) _) (p := ⟨w.heap.size + 1, 2, none⟩) (by first | (simp; done) | (simp; omega)) _)

end Go.Proofs.YtgkelemfbmmgnaaGreat

