/- Texts of digits, written by the reference. Each theorem names its conditions. -/
import Derived.Test.YtndblondleclpaaDoorDecS
import Derived.Test.YtndblondleclpaaDoorTxM
import Derived.Test.YtndblondleclpaaDoorDig
namespace Go.Proofs.YtndblondleclpaaDoor
open Go.RowKit
set_option linter.unusedVariables false
set_option linter.unusedSimpArgs false

set_option maxHeartbeats 400000 in
theorem lsign_any (d : Int) (w : World) (h0 : 0 ≤ d) (h1 : d < 36) : Calls Tryd.prog 49 #[.int .i64 d] w fun e w' => e = .returned (.int .u8 ((sgc d).toNat : Int)) ∧ w = w' := by
  go_enter Tryd.func49, Tryd.ntmps49
  by_cases h : d < 10
  · have HX := Lib.hid (show (48 + d : Int) = ((sgc d).toNat : Int) by unfold sgc; rw [if_pos h, UInt8.toNat_ofNat']; omega)
    go_wp2
    go_ret
    exact ⟨by rw [← HX.out]; rfl, rfl⟩
  · have HX := Lib.hid (show (97 + d - 10 : Int) = ((sgc d).toNat : Int) by unfold sgc; rw [if_neg h, UInt8.toNat_ofNat']; omega)
    go_wp2
    go_ret
    exact ⟨by rw [← HX.out]; rfl, rfl⟩

/-- What has been written when k digits are. -/
def dpre (whole : Int) (xs : List Int) (k : Nat) : List UInt8 := Lib.itoa whole ++ (if k = 0 then [] else 46 :: (xs.take k).map sgc)
theorem dpre_all (whole : Int) (xs : List Int) : dpre whole xs xs.length = dtext whole xs := by
  unfold dpre dtext
  by_cases h : xs = []
  · subst h; simp
  · rw [if_neg h, if_neg (fun q => h (List.eq_nil_of_length_eq_zero q)), List.take_length]
theorem dpre_zero {whole : Int} {xs : List Int} {x : Int} (h : xs[0]? = some x) : (Lib.itoa whole ++ [46]) ++ [sgc x] = dpre whole xs 1 := by
  cases xs with
  | nil => simp at h
  | cons y l => simp at h; subst h; simp [dpre]
theorem dpre_succ {whole : Int} {xs : List Int} {k : Nat} {x : Int} (hk : k ≠ 0) (h : xs[k]? = some x) : dpre whole xs k ++ [sgc x] = dpre whole xs (k + 1) := by
  unfold dpre
  rw [if_neg hk, if_neg (by omega), List.take_add_one, h]
  simp
theorem dpre_len {whole : Int} {xs : List Int} {k : Nat} (hw : R64 whole) (hk : k ≤ 1000) : (dpre whole xs k).length ≤ 1100 := by
  unfold dpre
  have := Lib.itoa_length_le whole hw.1 hw.2
  rw [List.length_append]
  split
  · simp; omega
  · simp; omega

set_option maxRecDepth 100000 in
set_option maxHeartbeats 3200000 in
theorem ltext_any (whole : Int) (va : Value) (xs : List Int) (w : World) (hw : R64 whole) (ha : Sl w va xs) (hl : xs.length ≤ 1000) (hd : ∀ x ∈ xs, 0 ≤ x ∧ x < 36) :
    Calls Tryd.prog 27 #[.int .i64 whole, va] w fun e w' => e = .returned (.string ⟨(dtext whole xs).toArray⟩) ∧ Bl w w' := by
  obtain ⟨av, cv, rfl, hcv⟩ := ha.form'
  have HA := Lib.hid ha
  have HD := Lib.hid hd
  have HW := Lib.hid hw
  clear ha hd hw
  have kc := fun (w : World) (s : ByteArray) => Lib.run_convert_string_bytes (P := Tryd.prog) w 9 49 5 s Tryd.underlying9 Tryd.underlying49 Tryd.underlying5
  go_enter Tryd.func27, Tryd.ntmps27
  go_wp2_with fail
  refine (ldec_any whole HW.out _).mono ?_
  rintro e w1 ⟨rfl, B1⟩
  have hsz : (⟨(Lib.itoa whole).toArray⟩ : ByteArray).size ≤ 21 := by
    have := Lib.itoa_length_le whole HW.out.1 HW.out.2
    simpa [ByteArray.size] using this
  obtain ⟨s, hs⟩ : ∃ s : ByteArray, s = ⟨(Lib.itoa whole).toArray⟩ := ⟨_, rfl⟩
  rw [← hs] at hsz ⊢
  have hcv := OwB.conv (w := w1) (B := w.heap.size) B1.size s (grownCap_le_maxLen _ _ _ _ (by unfold maxLen; omega))
  have HS := Lib.hid hs
  clear hs
  go_wp2_with fail
  obtain ⟨hc1, hc2⟩ := hcv
  have B2 := bl_call B1 hc2
  generalize grownCap w1 s.size 0 5 = c1 at *
  generalize w1.heap.size = g1 at hc1 ⊢
  have hn1 : s.size = (Lib.itoa whole).length := by rw [HS.out]; simp [ByteArray.size]
  rw [hn1] at hc1 ⊢
  have hsl : s.data.toList = Lib.itoa whole := by rw [HS.out]
  rw [hsl] at hc1
  have HO0 := Lib.hid hc1
  clear hc1 hc2 hn1 B1 hsz hsl
  generalize Lib.bytesWorld w1 5 s = w2 at *
  clear HS kc
  obtain ⟨L0, hL0⟩ : ∃ l, l = Lib.itoa whole := ⟨_, rfl⟩
  rw [← hL0] at HO0 ⊢
  have HL0 := Lib.hid hL0
  clear hL0
  go_loopw [5, 6] (fun s5 s6 wr => ∃ (acc : List UInt8) (k g c : Nat), s5 = .slice (some ⟨g, 0, none⟩) acc.length c ∧ s6 = .int .i64 k ∧ k ≤ xs.length ∧ OwB wr w.heap.size (.slice (some ⟨g, 0, none⟩) acc.length c) acc ∧ Hid (acc = dpre whole xs k) ∧ Bl w wr) (fun _ s6 _ => xs.length - (intOf s6).toNat)
  case atStart => exact ⟨L0, 0, g1, c1, rfl, rfl, Nat.zero_le _, HO0.out, Lib.hid (by rw [HL0.out]; simp [dpre]), B2⟩
  case round =>
    rcases hrel with ⟨acc, k, g, c, rfl, rfl, hk, ho, hx, Br⟩
    have HO := Lib.hid ho
    have HLa := Lib.hid (show acc.length ≤ 1100 by rw [hx.out]; exact dpre_len HW.out (by omega))
    clear ho
    rcases Nat.lt_or_ge k xs.length with hlt | hge
    · obtain ⟨b0, o0, rfl, hb0, x, hxk, hr, HC⟩ := HA.out.cellIn hlt
      have hxd := HD.out x (List.mem_of_getElem? hxk)
      have HXK := Lib.hid hxk
      clear hxk hr
      by_cases hk0 : k = 0
      · subst hk0
        go_wp2_with (at_builtin; refine wpList_append_b1 (w0 := w) rfl _ _ rfl _ acc (by rfl) (HO.out.alloc _) 46 wr.heap.size (by rfl) (by simp) (by have := HLa.out; omega) (bl_alloc Br _) ?_; intro acc1 g1 c1 wn HA1 HO1 hg BN _; clear hg; have hcn : wn.cell? ⟨b0, o0, none⟩ = some (.int .i64 x) := (by have := HC.out wn BN; rwa [Nat.add_zero] at this))
        have HLb := Lib.hid (show acc1.length ≤ 1101 by rw [HA1.out]; have := HLa.out; simp; omega)
        refine (lsign_any x wn hxd.1 hxd.2).mono ?_
        rintro e w9 ⟨rfl, rfl⟩
        clear hcn
        go_wp2_with (at_builtin; refine wpList_append_b1 (w0 := w) rfl _ _ rfl _ acc1 (by rfl) (HO1.out.alloc _) (sgc x) wn.heap.size (by rfl) (by simp) (by have := HLb.out; omega) (bl_alloc BN _) ?_; intro acc2 g2 c2 wm HA2 HO2 hg BM _)
        clear hg
        go_wp2
        go_roundw
        case rel => exact ⟨acc2, 1, g2, c2, rfl, rfl, by omega, HO2.out, Lib.hid (by rw [HA2.out, HA1.out, hx.out, ← dpre_zero HXK.out]; simp [dpre]), BM⟩
        case measure => simp only [intOf]; omega
      · have hcn := HC.out wr Br
        go_wp2_with fail
        refine (lsign_any x wr hxd.1 hxd.2).mono ?_
        rintro e w9 ⟨rfl, rfl⟩
        clear hcn
        go_wp2_with (at_builtin; refine wpList_append_b1 (w0 := w) rfl _ _ rfl _ acc (by rfl) (HO.out.alloc _) (sgc x) wr.heap.size (by rfl) (by simp) (by have := HLa.out; omega) (bl_alloc Br _) ?_; intro acc2 g2 c2 wm HA2 HO2 hg BM _)
        clear hg
        go_wp2
        go_roundw
        case rel => exact ⟨acc2, k + 1, g2, c2, rfl, by simp, by omega, HO2.out, Lib.hid (by rw [HA2.out, hx.out, dpre_succ hk0 HXK.out]), BM⟩
        case measure => simp only [intOf, Int.toNat_natCast]; omega
    · obtain rfl : k = xs.length := by omega
      have hst := run_string_b HO.out
      have HX := Lib.hid (show (⟨acc.toArray⟩ : ByteArray) = ⟨(dtext whole xs).toArray⟩ by rw [hx.out, dpre_all])
      go_wp2
      go_ret
      exact ⟨by rw [← HX.out]; rfl, Br⟩

end Go.Proofs.YtndblondleclpaaDoor
