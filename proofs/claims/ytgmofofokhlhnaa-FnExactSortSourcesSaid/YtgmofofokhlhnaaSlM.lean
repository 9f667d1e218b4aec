/- Marks on lists of sources. Each theorem names its conditions. -/
import Derived.Test.YtgmofofokhlhnaaSl
namespace Go.Proofs.Ytgmofofokhlhnaa
open Go.RowKit
set_option linter.unusedVariables false
set_option linter.unusedSimpArgs false

theorem OwnL.only {w w' : World} {lo hi g : Nat} {ss : List Src} {S : Nat → Prop} (x : OwnL w lo hi g ss) (ho : Only w w' S) (hn : ∀ k, lo ≤ k → k < hi → ¬ S k) : OwnL w' lo hi g ss := by
  obtain ⟨h1, h2, cs, T, x⟩ := x
  refine ⟨h1, Nat.le_trans h2 ho.size, cs, T, x.row.only ho (hn g x.glo x.ghi), x.glo, x.ghi, x.siz, x.cel, fun i s hi hs => (x.own i s hi hs).only2 ho (fun k hk => ?_), x.top, x.apt⟩
  have := x.top i k hi hk
  have := x.glo
  exact hn k (by omega) (by omega)
theorem Only.weak {w w' : World} {S S' : Nat → Prop} (h : Only w w' S) (hs : ∀ k, S k → S' k) : Only w w' S' := ⟨h.os, h.tape, h.output, h.size, fun k hk hn => h.block k hk fun q => hn (hs k q)⟩
theorem totL_le (ss : List Src) (i : Nat) : totL (ss.take i) ≤ totL ss := by
  induction ss generalizing i with
  | nil => simp
  | cons t r ih =>
    cases i with
    | zero => simp [totL]
    | succ i => have := ih i; simp only [List.take_succ_cons, totL]; omega
set_option maxRecDepth 100000 in
set_option maxHeartbeats 1600000 in
theorem markL_any (ss : List Src) (k : Int) (lo hi g : Nat) (w : World) (ha : OwnL w lo hi g ss) (h0 : 0 ≤ k) (h1 : k + totL ss ≤ 4611686018427387904) :
    Calls Try.prog 56 #[.slice (some ⟨g, 0, none⟩) ss.length ss.length, .int .i64 k] w fun e w' => e = .returned (.int .i64 (k + totL ss)) ∧ Only w w' (fun b => lo ≤ b ∧ b < hi) := by
  obtain ⟨hl, hhi, cs, T, hx⟩ := ha
  have HX := Lib.hid hx
  have hglo := hx.glo
  have hghi := hx.ghi
  have hrow := Lib.hid hx.row
  clear hx
  go_enter Try.func56, Try.ntmps56
  go_wp2
  go_loopw [1, 5] (fun s1 s5 wr => ∃ (i : Nat) (L : Nat), i ≤ ss.length ∧ s5 = .int .i64 i ∧ s1 = .int .i64 (k + (L : Int)) ∧ L = totL (ss.take i) ∧ Hid (∀ j s, i ≤ j → j < ss.length → ss[j]? = some s → OwnS wr lo (T j).1 (T j).2.1 (T j).2.2 s) ∧ Only w wr (fun b => g < b ∧ b < hi)) (fun _ s5 _ => ss.length - (intOf s5).toNat)
  case atStart => exact ⟨0, 0, Nat.zero_le _, rfl, by simp, by simp [totL], Lib.hid (fun j s _ hj hs => HX.out.own j s hj hs), Only.of_below (bl_refl _) _⟩
  case round =>
    obtain ⟨i, L, hin, rfl, rfl, hL, HW, hO⟩ := hrel
    have hgz : g < w.heap.size := by omega
    have hng : ¬ (g < g ∧ g < hi) := by omega
    have hzr := hO.size
    by_cases hlt : i < ss.length
    · obtain ⟨s, hs⟩ : ∃ s, ss[i]? = some s := ⟨_, List.getElem?_eq_getElem hlt⟩
      have htk := totL_take hs
      have hle := totL_le ss (i + 1)
      obtain ⟨h, p, q, hT⟩ : ∃ h p q, T i = (h, p, q) := ⟨_, _, _, rfl⟩
      have ho := HW.out i s (Nat.le_refl _) hlt hs
      have hc := HX.out.cel i hlt
      have htop := HX.out.top i
      rw [hT] at ho hc htop
      obtain ⟨a1, a2, a3, n12, n13, n23⟩ := ho
      have HT := Lib.hid hT
      have HTOP := Lib.hid (show ∀ b, blks h p q b → g < b ∧ b < hi from fun b hb => htop b hlt hb)
      have HS := Lib.hid hs
      have htk2 : totL (ss.take (i + 1)) = L + (s.H.length + s.P.length + s.G.length) := by rw [htk, ← hL]; rfl
      have hb1 : k + (L : Int) + s.H.length + s.P.length + s.G.length ≤ 4611686018427387904 := by omega
      have k0 : wr.cell? ⟨g, i * 3, none⟩ = some h := by rw [cell_only hO hgz hng, hrow.out.out.1]; exact hc.1
      have k1 : wr.cell? ⟨g, i * 3 + 1, none⟩ = some p := by rw [cell_only hO hgz hng, hrow.out.out.1]; exact hc.2.1
      have k2 : wr.cell? ⟨g, i * 3 + 2, none⟩ = some q := by rw [cell_only hO hgz hng, hrow.out.out.1]; exact hc.2.2
      have HTK := Lib.hid htk2
      clear htop hT hs htk hle hc htk2
      go_wp2_with fail
      refine (markI_any _ _ _ lo _ a1 (by omega) (by omega)).mono ?_
      rintro e w1 ⟨rfl, o1, g1⟩
      have P1 := Only.of_grown (S := fun b => h.ownBlock = some b) g1 (fun _ e => e)
      have Q1 : Only w w1 (fun b => g < b ∧ b < hi) := hO.trans (Only.of_grown g1 (fun b e => HTOP.out b (.inl e)))
      have d1 : w1.cell? ⟨g, i * 3 + 1, none⟩ = some p := by rw [cell_only Q1 hgz hng, ← cell_only hO hgz hng]; exact k1
      have d2 : w1.cell? ⟨g, i * 3 + 2, none⟩ = some q := by rw [cell_only Q1 hgz hng, ← cell_only hO hgz hng]; exact k2
      have p1 := a2.only P1 (fun b hb hb' => n12 b hb' hb)
      have q1 := a3.only P1 (fun b hb hb' => n13 b hb' hb)
      clear g1 k0 k1 k2
      go_wp2_with fail
      refine (markI_any _ _ _ lo _ p1 (by omega) (by omega)).mono ?_
      rintro e w2 ⟨rfl, o2, g2⟩
      have P2 := Only.of_grown (S := fun b => p.ownBlock = some b) g2 (fun _ e => e)
      have Q2 : Only w w2 (fun b => g < b ∧ b < hi) := Q1.trans (Only.of_grown g2 (fun b e => HTOP.out b (.inr (.inl e))))
      have f2 : w2.cell? ⟨g, i * 3 + 2, none⟩ = some q := by rw [cell_only Q2 hgz hng, ← cell_only Q1 hgz hng]; exact d2
      have q2 := q1.only P2 (fun b hb hb' => n23 b hb' hb)
      clear g2 d1 d2
      go_wp2_with fail
      refine (markI_any _ _ _ lo _ q2 (by omega) (by omega)).mono ?_
      rintro e w3 ⟨rfl, o3, g3⟩
      have P3 := Only.of_grown (S := fun b => q.ownBlock = some b) g3 (fun _ e => e)
      have Q3 : Only w w3 (fun b => g < b ∧ b < hi) := Q2.trans (Only.of_grown g3 (fun b e => HTOP.out b (.inr (.inr e))))
      have HN := Lib.hid (show ∀ j t, i + 1 ≤ j → j < ss.length → ss[j]? = some t → OwnS w3 lo (T j).1 (T j).2.1 (T j).2.2 t from fun j t h1 h2 h3 => by
        have hap := HX.out.apt j i
        rw [HT.out] at hap
        have hap : ∀ b, blks (T j).1 (T j).2.1 (T j).2.2 b → ¬ blks h p q b := fun b => hap b h2 hlt (by omega)
        exact (((HW.out j t (by omega) h2 h3).only2 P1 (fun b hb hb' => hap b hb (.inl hb'))).only2 P2 (fun b hb hb' => hap b hb (.inr (.inl hb')))).only2 P3 (fun b hb hb' => hap b hb (.inr (.inr hb'))))
      clear g3 f2 P1 P2 P3 o1 o2 o3 p1 q1 q2 a1 a2 a3
      go_wp2
      go_roundw
      case rel => exact ⟨i + 1, L + (s.H.length + s.P.length + s.G.length), by omega, by go_num, by (first | rfl | (congr 1; omega)), HTK.out.symm, HN, Q3⟩
      case measure => simp only [intOf]; omega
    · have hLL : L = totL ss := by rw [hL, List.take_of_length_le (by omega)]
      subst hLL
      go_wp2
      go_ret
      exact ⟨rfl, hO.weak (fun b hb => by omega)⟩

end Go.Proofs.Ytgmofofokhlhnaa
