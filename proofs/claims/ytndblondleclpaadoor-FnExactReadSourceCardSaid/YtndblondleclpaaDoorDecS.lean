/- The reference's decimal text. Each theorem names its conditions. -/
import Derived.Test.YtndblondleclpaaDoorAppB
import Derived.Test.YtndblondleclpaaDoorRdM
import Derived.Lib.ItoaLen
namespace Go.Proofs.YtndblondleclpaaDoor
open Go.RowKit
set_option linter.unusedVariables false
set_option linter.unusedSimpArgs false

theorem decU_len {u : Nat} (h : u ≤ 9223372036854775808) : (decU u).length ≤ 20 := by
  unfold decU
  split
  · simp
  · rw [Lib.decDigits_length]; exact Lib.nDigits_le20 u (by omega)
theorem tmod_ab (k : Int) : (if k.tmod 10 < 0 then -(k.tmod 10) else k.tmod 10) = ((k.natAbs % 10 : Nat) : Int) := by
  rw [← (dec_abs k).2]; split <;> omega
theorem tmod_bd (k : Int) : -10 < k.tmod 10 ∧ k.tmod 10 < 10 := by
  have := (dec_abs k).2
  have h := Nat.mod_lt k.natAbs (show 10 > 0 by decide)
  omega

set_option maxRecDepth 100000 in
set_option maxHeartbeats 3200000 in
theorem ldec_any (n : Int) (hn : R64 n) (w : World) :
    Calls Tryd.prog 48 #[.int .i64 n] w fun e w' => e = .returned (.string ⟨(Lib.itoa n).toArray⟩) ∧ Bl w w' := by
  unfold R64 at hn
  go_enter Tryd.func48, Tryd.ntmps48
  go_wp2
  go_loopw [3, 4, 5] (fun s3 s4 _ wr => ∃ (bs : List UInt8) (k : Int) (g c : Nat), s3 = .slice (some ⟨g, 0, none⟩) bs.length c ∧ s4 = .int .i64 k ∧ -9223372036854775808 ≤ k ∧ k ≤ 9223372036854775807 ∧ OwB wr w.heap.size (.slice (some ⟨g, 0, none⟩) bs.length c) bs ∧ Hid (decU k.natAbs ++ bs = decU n.natAbs) ∧ Bl w wr) (fun _ s4 _ _ => (intOf s4).natAbs)
  case atStart => exact ⟨[], n, w.heap.size, 0, rfl, rfl, hn.1, hn.2, OwX.made (Nat.le_refl _) _, Lib.hid (by simp), bl_alloc (bl_refl _) _⟩
  case round =>
    rcases hrel with ⟨bs, k, g, c, rfl, rfl, hk0, hk1, ho, hx, Br⟩
    have HO := Lib.hid ho
    clear ho
    by_cases hk : k = 0
    · subst hk
      have HE := Lib.hid (show bs = decU n.natAbs by have := hx.out; simpa [decU] using this)
      have HR := Lib.hid (ref_dec n)
      clear hx
      have HL := Lib.hid (show n = 0 ↔ bs.length = 0 by
        rw [HE.out]
        by_cases h0 : n = 0
        · subst h0; simp [decU]
        · have := dec_pos n.natAbs
          simp only [h0, false_iff]
          rw [decU_pos (by omega)]; omega)
      have hst := run_string_b HO.out
      by_cases h0 : n = 0
      · have hb0 := HL.out.1 h0
        have HX := Lib.hid (show (⟨#[48]⟩ : ByteArray) = ⟨(Lib.itoa n).toArray⟩ by rw [← HR.out, if_pos h0])
        go_wp2
        go_ret
        exact ⟨by rw [← HX.out]; rfl, Br⟩
      · have hb0 : ¬ bs.length = 0 := fun q => h0 (HL.out.2 q)
        by_cases hn0 : n < 0
        · have HX := Lib.hid (show (⟨#[45]⟩ : ByteArray) ++ ⟨bs.toArray⟩ = ⟨(Lib.itoa n).toArray⟩ by rw [← HR.out, if_neg h0, if_pos hn0, ← HE.out]; exact str_app [45] bs)
          have hbl : bs.length ≤ 20 := by rw [HE.out]; exact decU_len (by omega)
          go_wp2
          go_ret
          exact ⟨by rw [← HX.out]; rfl, Br⟩
        · have HX := Lib.hid (show (⟨bs.toArray⟩ : ByteArray) = ⟨(Lib.itoa n).toArray⟩ by rw [← HR.out, if_neg h0, if_neg hn0, ← HE.out])
          go_wp2
          go_ret
          exact ⟨by rw [← HX.out]; rfl, Br⟩
    · have hb := tmod_bd k
      have HA := Lib.hid (tmod_ab k)
      have HX := Lib.hid (dec_round (u := k.natAbs) (by omega) bs)
      have HD := Lib.hid (dec_abs k)
      have HLn := Lib.hid (show bs.length ≤ 20 by
        have := congrArg List.length hx.out
        rw [List.length_append] at this
        have := decU_len (u := n.natAbs) (by omega)
        omega)
      have hM : k.natAbs % 10 < 10 := Nat.mod_lt _ (by decide)
      by_cases hd : k.tmod 10 < 0
      · have HU := Lib.hid (show (48 + -(k.tmod 10) : Int) = ((UInt8.ofNat (48 + k.natAbs % 10)).toNat : Int) by
          have := HA.out; rw [if_pos hd] at this; rw [digit_byte hM]; omega)
        go_wp2_with (at_builtin; refine wpList_append_x rfl Tryd.underlying49 info_u8 rfl (by decide) _ _ rfl w.heap.size _ [.int .u8 (48 + -(k.tmod 10))] (by rfl) (OwX.lit Br.size _ rfl _) g c (cB bs) (by rw [cB_len]; rfl) (cB_one bs) (fun i u hi => (HO.out.alloc _).cell hi) (by have := HLn.out; rw [cB_len]; simp; omega) (Nat.le_trans Br.size (by simp)) ?_; intro v' wn ho hg hor; obtain ⟨a1, c1, rfl, _⟩ := ho.form1 (by simp))
        have HO2 := Lib.hid ho
        have BN := bl_grownX (bl_alloc Br _) hg (fun k hk => by simp [Value.ownBlock] at hk; have := Br.size; omega)
        have HLL := Lib.hid (cB_len bs)
        clear ho hg hor
        go_wp2
        go_roundw
        case rel =>
          refine ⟨UInt8.ofNat (48 + k.natAbs % 10) :: bs, k.tdiv 10, a1, c1, by rw [HLL.out]; rfl, rfl, by have := HD.out.1; omega, by have := HD.out.1; omega, ?_, Lib.hid ?_, BN⟩
          · have := HO2.out
            rw [HU.out] at this
            simp only [List.length_append, HLL.out, List.length_singleton] at this
            rw [show (UInt8.ofNat (48 + k.natAbs % 10) :: bs).length = 1 + bs.length by rw [List.length_cons, Nat.add_comm]]
            exact this
          · rw [HD.out.1, ← HX.out]; exact hx.out
        case measure =>
          have := HD.out.1
          simp only [intOf]
          omega
      · have HU := Lib.hid (show (48 + k.tmod 10 : Int) = ((UInt8.ofNat (48 + k.natAbs % 10)).toNat : Int) by
          have := HA.out; rw [if_neg hd] at this; rw [digit_byte hM]; omega)
        go_wp2_with (at_builtin; refine wpList_append_x rfl Tryd.underlying49 info_u8 rfl (by decide) _ _ rfl w.heap.size _ [.int .u8 (48 + k.tmod 10)] (by rfl) (OwX.lit Br.size _ rfl _) g c (cB bs) (by rw [cB_len]; rfl) (cB_one bs) (fun i u hi => (HO.out.alloc _).cell hi) (by have := HLn.out; rw [cB_len]; simp; omega) (Nat.le_trans Br.size (by simp)) ?_; intro v' wn ho hg hor; obtain ⟨a1, c1, rfl, _⟩ := ho.form1 (by simp))
        have HO2 := Lib.hid ho
        have BN := bl_grownX (bl_alloc Br _) hg (fun k hk => by simp [Value.ownBlock] at hk; have := Br.size; omega)
        have HLL := Lib.hid (cB_len bs)
        clear ho hg hor
        go_wp2
        go_roundw
        case rel =>
          refine ⟨UInt8.ofNat (48 + k.natAbs % 10) :: bs, k.tdiv 10, a1, c1, by rw [HLL.out]; rfl, rfl, by have := HD.out.1; omega, by have := HD.out.1; omega, ?_, Lib.hid ?_, BN⟩
          · have := HO2.out
            rw [HU.out] at this
            simp only [List.length_append, HLL.out, List.length_singleton] at this
            rw [show (UInt8.ofNat (48 + k.natAbs % 10) :: bs).length = 1 + bs.length by rw [List.length_cons, Nat.add_comm]]
            exact this
          · rw [HD.out.1, ← HX.out]; exact hx.out
        case measure =>
          have := HD.out.1
          simp only [intOf]
          omega

end Go.Proofs.YtndblondleclpaaDoor
