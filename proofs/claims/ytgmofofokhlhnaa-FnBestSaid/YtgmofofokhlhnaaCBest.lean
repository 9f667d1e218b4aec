/- FnBest holds: best approximations of the second kind are of the first kind and convergents, errors get less and less. Conditions: none. -/
import Derived.Test.YtgmofofokhlhnaaOpenB
import Derived.Test.YtgmofofokhlhnaaDraw
import Derived.Test.YtgmofofokhlhnaaFbL
namespace Go.Proofs.Ytgmofofokhlhnaa
open Go.RowKit Go.ChangeShapes Go.WideShapes Go.ChangeAt
set_option linter.unusedVariables false
set_option linter.unusedSimpArgs false
set_option maxRecDepth 100000 in
set_option maxHeartbeats 12800000 in
theorem lawBest (v0 : Value) (x0 : List Int) (v1 : Value) (x1 : List Int) (w : World) (S0 : SlB w v0 x0) (S1 : SlB w v1 x1) :
    Calls Try.prog 7 #[v0, v1] w fun e w' => e = .returned (.bool true) ∧ Bl w w' := by
  have H0 := Lib.hid S0
  have H1 := Lib.hid S1
  obtain ⟨a0, c0, rfl, _⟩ := S0.form
  obtain ⟨a1, c1, rfl, _⟩ := S1.form
  clear S0 S1
  by_cases hl : 3000 < x0.length ∨ 3000 < x1.length
  · have hL := Lib.hid (decide_eq_true hl)
    clear hl
    go_enter Try.func7, Try.ntmps7
    go_wp2_with fail
    refine (a2long_any H0.out H1.out).mono ?_
    rintro e w9 ⟨rfl, rfl⟩
    rw [hL.out]
    go_wp2
    go_ret
    exact ⟨rfl, bl_refl _⟩
  · have hL := Lib.hid (decide_eq_false hl)
    have hl0 : x0.length ≤ 3000 := by omega
    have hl1 : x1.length ≤ 3000 := by omega
    clear hl
    go_enter Try.func7, Try.ntmps7
    go_wp2_with fail
    refine (a2long_any H0.out H1.out).mono ?_
    rintro e w9 ⟨rfl, rfl⟩
    rw [hL.out]
    go_wp2_with fail
    refine (a2small_any H0.out hl0).mono ?_
    rintro e w1 ⟨n, d, rfl, hg, hd, hn, hb1⟩
    have B1 : Bl w w1 := bl_call (bl_refl _) hb1
    have HOK := Lib.hid (show okF n d = true from ok_make hg (by omega) (by omega))
    clear hg
    go_wp2_with fail
    have B2 : Bl w (w1.alloc (.cells #[.int .i64 (n), .int .i64 (d)] 55)) := (bl_alloc B1 _)
    have xF_2 : Bx (w1.alloc (.cells #[.int .i64 (n), .int .i64 (d)] 55)) (w1.heap.size) #[.int .i64 (n), .int .i64 (d)] := (Bx.new (b := w1.heap.size) _ #[.int .i64 (n), .int .i64 (d)] 55 (by first | rfl | simp))
    have zz2 : w1.heap.size + 1 ≤ (w1.alloc (.cells #[.int .i64 (n), .int .i64 (d)] 55)).heap.size := (by simp)
    generalize (w1.alloc (.cells #[.int .i64 (n), .int .i64 (d)] 55)) = w2 at *
    obtain ⟨cF_2, fF_2, zF_2⟩ := xF_2.out
    have H1c := Lib.hid (H1.out.below B2)
    refine (bytes_at H1c.out (by omega) 0 200 (by omega) (by omega)).mono ?_
    rintro e w9 ⟨t, rfl, ht0, ht1, rfl⟩
    obtain ⟨m, hm⟩ : ∃ m, m = 1 + t := ⟨_, rfl⟩
    have HM := Lib.hid hm.symm
    have hmb : 1 ≤ m ∧ m ≤ 200 := by omega
    clear hm
    obtain ⟨fs, hfs⟩ : ∃ fs, fs = tgt false n d (min m d).toNat := ⟨_, rfl⟩
    obtain ⟨ss, hss⟩ : ∃ ss, ss = tgt true n d (min m d).toNat := ⟨_, rfl⟩
    have HB1 := Lib.hid (show bestsF false n d m = (fs, 0) by rw [hfs]; exact bests_small (sec := false) HOK.out hn (by omega) hmb)
    have HB2 := Lib.hid (show bestsF true n d m = (ss, 0) by rw [hss]; exact bests_small (sec := true) HOK.out hn (by omega) hmb)
    have hlf : fs.length ≤ 1048576 := by have := bests_len false n d m; rw [HB1.out] at this; exact this
    have hls : ss.length ≤ 1048576 := by have := bests_len true n d m; rw [HB2.out] at this; exact this
    have HFS := Lib.hid hfs
    have HSS := Lib.hid hss
    clear hfs hss
    go_wp2_with fail
    rw [HM.out]
    refine (impl_BestFirst n d m _).mono ?_
    rintro e w3 ⟨p1, q1, r1, rfl, HF, hb3⟩
    have B3 : Bl w w3 := bl_call B2 hb3
    have xF_3 : Bx w3 (w1.heap.size) #[.int .i64 (n), .int .i64 (d)] := xF_2.below hb3
    clear cF_2 fF_2 zF_2
    obtain ⟨cF_3, fF_3, zF_3⟩ := xF_3.out
    rw [HB1.out] at HF
    rw [HB1.out]
    simp only [] at HF
    obtain ⟨a9, c9, e9, _⟩ := (show OwnF _ _ (.slice p1 q1 r1) fs from HF).form
    obtain ⟨rfl, rfl, rfl⟩ : p1 = a9 ∧ q1 = fs.length ∧ r1 = c9 := by simpa using e9
    clear e9
    have HF := Lib.hid HF
    go_wp2_with fail
    refine (impl_BestSecond n d m _).mono ?_
    rintro e w4 ⟨p2, q2, r2, rfl, HS, hb4⟩
    have B4 : Bl w w4 := bl_call B3 hb4
    have xF_4 : Bx w4 (w1.heap.size) #[.int .i64 (n), .int .i64 (d)] := xF_3.below hb4
    clear cF_3 fF_3 zF_3
    obtain ⟨cF_4, fF_4, zF_4⟩ := xF_4.out
    rw [HB2.out] at HS
    rw [HB2.out]
    simp only [] at HS
    obtain ⟨a9, c9, e9, _⟩ := (show OwnF _ _ (.slice p2 q2 r2) ss from HS).form
    obtain ⟨rfl, rfl, rfl⟩ : p2 = a9 ∧ q2 = ss.length ∧ r2 = c9 := by simpa using e9
    clear e9
    have HS := Lib.hid HS
    have HF := Lib.hid (HF.out.below hb4)
    obtain ⟨cs, hcs, hsec⟩ := conv_second hn (by omega) (okF_bd HOK.out).2.2.2.2
    have HCV := Lib.hid hcs
    have HSEC := Lib.hid hsec
    have HTK := Lib.hid (terms_ok hn (show 1 ≤ d ∧ d ≤ 2000 by omega))
    clear hcs hsec
    go_wp2_with fail
    refine (expandS_ok _ HOK.out).mono ?_
    rintro e w5 ⟨p3, r3, rfl, HT, hb5⟩
    have B5 : Bl w w5 := bl_call B4 hb5
    have xF_5 : Bx w5 (w1.heap.size) #[.int .i64 (n), .int .i64 (d)] := xF_4.below hb5
    clear cF_4 fF_4 zF_4
    obtain ⟨cF_5, fF_5, zF_5⟩ := xF_5.out
    have HT := Lib.hid HT
    have HF := Lib.hid (HF.out.below hb5)
    have HS := Lib.hid (HS.out.below hb5)
    go_wp2_with fail
    refine (convOf_ok _ HT.out.sl HTK.out HCV.out).mono ?_
    rintro e w6 ⟨p4, r4, rfl, HC, hb6⟩
    have B6 : Bl w w6 := bl_call B5 hb6
    have xF_6 : Bx w6 (w1.heap.size) #[.int .i64 (n), .int .i64 (d)] := xF_5.below hb6
    clear cF_5 fF_5 zF_5
    obtain ⟨cF_6, fF_6, zF_6⟩ := xF_6.out
    have HF := Lib.hid (HF.out.below hb6).slF
    have HS := Lib.hid (HS.out.below hb6).slF
    have HC := Lib.hid HC.slF
    have hlc : cs.length ≤ 9223372036854775807 := HC.out.len
    clear HT
    go_wp2_with fail
    clear cF_6 fF_6 zF_6
    go_loopw [15] (fun s15 wr => ∃ k : Nat, k ≤ fs.length ∧ s15 = .int .i64 k ∧ Bl w6 wr) (fun s15 _ => fs.length - (intOf s15).toNat)
    case atStart => exact ⟨0, Nat.zero_le _, rfl, bl_refl _⟩
    case round =>
      obtain ⟨k, hk, rfl, hB⟩ := hrel
      obtain ⟨cF, fF, zF⟩ := (xF_6.below hB).out
      by_cases hlt : k < fs.length
      · obtain ⟨p, o, rfl, x, y, hx, c1, c2⟩ := HF.out.cellAt hB hlt
        have HX := Lib.hid hx
        have HA := Lib.hid (fst_at HFS.out HOK.out hn (by omega) hmb.1 hx)
        have hym : decide (m < y) = false := decide_eq_false (by have := HA.out.ym; omega)
        clear hx
        go_wp2_with fail
        go_region_held3 (fun w' => w'.cell? ⟨w1.heap.size, 0, none⟩ = some (.int .i64 (n)) ∧ w'.cell? ⟨w1.heap.size, 1, none⟩ = some (.int .i64 (d)) ∧ w'.cell? ⟨p, o + k * 2, none⟩ = some (.int .i64 x) ∧ w'.cell? ⟨p, o + k * 2 + 1, none⟩ = some (.int .i64 y)) (first | (simp [*]; done) | (go_simp; done) | go_keep)
          ((go_at_call 51; refine (isFirS_eq HA.out.c _).mono ?_; rintro e w2 ⟨rfl, hb2⟩; have B2 : Bl w6 w2 := bl_call (bl_drew hB) hb2; clear cF fF zF c1 c2; obtain ⟨cF, fF, zF⟩ := (xF_6.below B2).out; obtain ⟨c1, c2⟩ := HF.out.atR B2 HX.out))
        rcases Nat.eq_zero_or_pos k with hk0 | hk0
        · subst hk0
          go_wp2_with fail
          go_quiet (fail)
          rename_i nq
          have B2q : Bl w6 (w2.drewN nq) := bl_call B2 (Drawn.below ⟨_, rfl⟩ _)
          go_wp2
          go_roundw
          case rel => exact ⟨0 + 1, by omega, by go_num, B2q⟩
          case measure => simp only [intOf]; omega
        · obtain ⟨j, hj⟩ : ∃ j, j = k - 1 := ⟨_, rfl⟩
          have hjl : j < fs.length := by omega
          have hw1 : IntKind.i64.wrap ((k : Int) - 1) = (j : Int) := by rw [IntKind.wrap_i64]; omega
          have hj0 : (0 : Int) ≤ (j : Int) := by omega
          have hj1 : (j : Int) < (fs.length : Int) := by omega
          have hkz : decide ((0 : Int) < (k : Int)) = true := decide_eq_true (by omega)
          obtain ⟨_, _, e9, u, v, hu, d1, d2⟩ := HF.out.cellAt B2 hjl
          cases e9
          have HU := Lib.hid hu
          obtain ⟨hvy, hce⟩ := fst_two HFS.out HOK.out hn (by omega) hmb.1 HX.out hu (show j < k by omega)
          have HCE := Lib.hid hce
          have hyv : decide (y ≤ v) = false := decide_eq_false (by omega)
          clear hu hce hj
          go_wp2_with fail
          go_quiet (fail)
          rename_i nq
          have B2q : Bl w6 (w2.drewN nq) := bl_call B2 (Drawn.below ⟨_, rfl⟩ _)
          go_wp2_with fail
          all_goals
            go_region_held3 (fun w' => w'.cell? ⟨w1.heap.size, 0, none⟩ = some (.int .i64 (n)) ∧ w'.cell? ⟨w1.heap.size, 1, none⟩ = some (.int .i64 (d)) ∧ w'.cell? ⟨p, o + k * 2, none⟩ = some (.int .i64 x) ∧ w'.cell? ⟨p, o + k * 2 + 1, none⟩ = some (.int .i64 y) ∧ w'.cell? ⟨p, o + j * 2, none⟩ = some (.int .i64 u) ∧ w'.cell? ⟨p, o + j * 2 + 1, none⟩ = some (.int .i64 v)) (first | (simp [*]; done) | (go_simp; done) | go_keep)
              ((go_at_call 52; refine (cmpES_eq HCE.out _).mono ?_; rintro e w3 ⟨rfl, hb3⟩; have B3 : Bl w6 w3 := bl_call (bl_drew B2q) hb3; clear cF fF zF c1 c2 d1 d2; obtain ⟨cF, fF, zF⟩ := (xF_6.below B3).out; obtain ⟨c1, c2⟩ := HF.out.atR B3 HX.out; obtain ⟨d1, d2⟩ := HF.out.atR B3 HU.out))
            all_goals
              go_wp2
              go_roundw
              case rel => exact ⟨k + 1, by omega, by go_num, B3⟩
              case measure => simp only [intOf]; omega
      · go_wp2_with fail
        clear cF fF zF hlt hk
        go_loopw [20] (fun s20 wq => ∃ i : Nat, i ≤ ss.length ∧ s20 = .int .i64 i ∧ Bl w6 wq) (fun s20 _ => ss.length - (intOf s20).toNat)
        case atStart => exact ⟨0, Nat.zero_le _, rfl, hB⟩
        case round =>
          clear hB
          obtain ⟨i, hi, rfl, hB2⟩ := hrel
          by_cases hlt : i < ss.length
          · obtain ⟨cF, fF, zF⟩ := (xF_6.below hB2).out
            obtain ⟨p', o', rfl, x, y, hx, c1, c2⟩ := HS.out.cellAt hB2 hlt
            have HX := Lib.hid hx
            have HA := Lib.hid (snd_at HFS.out HSS.out HSEC.out HOK.out hn (by omega) hmb.1 hx)
            clear hx
            go_wp2_with fail
            go_region_held3 (fun w' => w'.cell? ⟨w1.heap.size, 0, none⟩ = some (.int .i64 (n)) ∧ w'.cell? ⟨w1.heap.size, 1, none⟩ = some (.int .i64 (d)) ∧ w'.cell? ⟨p', o' + i * 2, none⟩ = some (.int .i64 x) ∧ w'.cell? ⟨p', o' + i * 2 + 1, none⟩ = some (.int .i64 y)) (first | (simp [*]; done) | (go_simp; done) | go_keep)
              ((go_at_call 53; refine (isSecS_eq HA.out.c _).mono ?_; rintro e w8 ⟨rfl, hb8⟩; have B8 : Bl w6 w8 := bl_call (bl_drew hB2) hb8; clear cF fF zF c1 c2; obtain ⟨cF, fF, zF⟩ := (xF_6.below B8).out; obtain ⟨c1, c2⟩ := HS.out.atR B8 HX.out))
            go_wp2_with fail
            clear cF fF zF c1 c2
            go_loopw [23, 24] (fun s23 s24 wi => ∃ (k : Nat) (b : Bool), k ≤ fs.length ∧ s24 = .int .i64 k ∧ s23 = .bool b ∧ Hid (b = decide ((x, y) ∈ fs.take k)) ∧ Bl w6 wi) (fun _ s24 _ => fs.length - (intOf s24).toNat)
            case atStart => exact ⟨0, false, Nat.zero_le _, rfl, rfl, Lib.hid (by simp), B8⟩
            case round =>
              obtain ⟨k, b, hk, rfl, rfl, HB, hB3⟩ := hrel
              by_cases hlk : k < fs.length
              · obtain ⟨p, o, rfl, u, v, hu, d1, d2⟩ := HF.out.cellAt hB3 hlk
                obtain ⟨c1, c2⟩ := HS.out.atR hB3 HX.out
                have HU := Lib.hid hu
                clear hu
                cases b with
                | true =>
                  have HB2 := Lib.hid (mem_step_t HB.out (k := k))
                  go_wp2_with fail
                  go_quiet (fail)
                  rename_i nq
                  have B3q : Bl w6 (wr.drewN nq) := bl_call hB3 (Drawn.below ⟨_, rfl⟩ _)
                  go_wp2
                  go_roundw
                  case rel => exact ⟨k + 1, true, by omega, by go_num, rfl, HB2, B3q⟩
                  case measure => simp only [intOf]; omega
                | false =>
                  by_cases e1 : u = x
                  · by_cases e2 : v = y
                    · have e1' := e1.symm
                      have e2' := e2.symm
                      clear e1 e2
                      subst e1'
                      subst e2'
                      have HB2 := Lib.hid (mem_step_y HU.out)
                      go_wp2_with fail
                      go_quiet (fail)
                      rename_i nq
                      have B3q : Bl w6 (wr.drewN nq) := bl_call hB3 (Drawn.below ⟨_, rfl⟩ _)
                      go_wp2
                      go_roundw
                      case rel => exact ⟨k + 1, true, by omega, by go_num, by first | rfl | simp, HB2, B3q⟩
                      case measure => simp only [intOf]; omega
                    · have HB2 := Lib.hid (mem_step_n HB.out HU.out (fun e => e2 (Prod.mk.inj e).2))
                      go_wp2_with fail
                      go_quiet (fail)
                      rename_i nq
                      have B3q : Bl w6 (wr.drewN nq) := bl_call hB3 (Drawn.below ⟨_, rfl⟩ _)
                      go_wp2
                      go_roundw
                      case rel => exact ⟨k + 1, false, by omega, by go_num, by first | rfl | (simp [e1, e2]; done), HB2, B3q⟩
                      case measure => simp only [intOf]; omega
                  · have HB2 := Lib.hid (mem_step_n HB.out HU.out (fun e => e1 (Prod.mk.inj e).1))
                    go_wp2_with fail
                    go_quiet (fail)
                    rename_i nq
                    have B3q : Bl w6 (wr.drewN nq) := bl_call hB3 (Drawn.below ⟨_, rfl⟩ _)
                    go_wp2
                    go_roundw
                    case rel => exact ⟨k + 1, false, by omega, by go_num, by first | rfl | (simp [e1]; done), HB2, B3q⟩
                    case measure => simp only [intOf]; omega
              · obtain rfl : b = true := by
                  have h := HB.out
                  rw [List.take_of_length_le (by omega)] at h
                  rw [h]; exact decide_eq_true HA.out.f
                clear HB B8
                have B8 := hB3
                clear hB3
                go_wp2_with fail
                clear hlk hk
                go_loopw [25, 26] (fun s25 s26 wi => ∃ (k : Nat) (b : Bool), k ≤ cs.length ∧ s26 = .int .i64 k ∧ s25 = .bool b ∧ Hid (b = decide ((x, y) ∈ cs.take k)) ∧ Bl w6 wi) (fun _ s26 _ => cs.length - (intOf s26).toNat)
                case atStart => exact ⟨0, false, Nat.zero_le _, rfl, rfl, Lib.hid (by simp), B8⟩
                case round =>
                  obtain ⟨k, b, hk, rfl, rfl, HB, hB3⟩ := hrel
                  by_cases hlk : k < cs.length
                  · obtain ⟨p, o, rfl, u, v, hu, d1, d2⟩ := HC.out.cellAt hB3 hlk
                    obtain ⟨c1, c2⟩ := HS.out.atR hB3 HX.out
                    have HU := Lib.hid hu
                    clear hu
                    cases b with
                    | true =>
                      have HB2 := Lib.hid (mem_step_t HB.out (k := k))
                      go_wp2_with fail
                      go_quiet (fail)
                      rename_i nq
                      have B3q : Bl w6 (wr.drewN nq) := bl_call hB3 (Drawn.below ⟨_, rfl⟩ _)
                      go_wp2
                      go_roundw
                      case rel => exact ⟨k + 1, true, by omega, by go_num, rfl, HB2, B3q⟩
                      case measure => simp only [intOf]; omega
                    | false =>
                      by_cases e1 : u = x
                      · by_cases e2 : v = y
                        · have e1' := e1.symm
                          have e2' := e2.symm
                          clear e1 e2
                          subst e1'
                          subst e2'
                          have HB2 := Lib.hid (mem_step_y HU.out)
                          go_wp2_with fail
                          go_quiet (fail)
                          rename_i nq
                          have B3q : Bl w6 (wr.drewN nq) := bl_call hB3 (Drawn.below ⟨_, rfl⟩ _)
                          go_wp2
                          go_roundw
                          case rel => exact ⟨k + 1, true, by omega, by go_num, by first | rfl | simp, HB2, B3q⟩
                          case measure => simp only [intOf]; omega
                        · have HB2 := Lib.hid (mem_step_n HB.out HU.out (fun e => e2 (Prod.mk.inj e).2))
                          go_wp2_with fail
                          go_quiet (fail)
                          rename_i nq
                          have B3q : Bl w6 (wr.drewN nq) := bl_call hB3 (Drawn.below ⟨_, rfl⟩ _)
                          go_wp2
                          go_roundw
                          case rel => exact ⟨k + 1, false, by omega, by go_num, by first | rfl | (simp [e1, e2]; done), HB2, B3q⟩
                          case measure => simp only [intOf]; omega
                      · have HB2 := Lib.hid (mem_step_n HB.out HU.out (fun e => e1 (Prod.mk.inj e).1))
                        go_wp2_with fail
                        go_quiet (fail)
                        rename_i nq
                        have B3q : Bl w6 (wr.drewN nq) := bl_call hB3 (Drawn.below ⟨_, rfl⟩ _)
                        go_wp2
                        go_roundw
                        case rel => exact ⟨k + 1, false, by omega, by go_num, by first | rfl | (simp [e1]; done), HB2, B3q⟩
                        case measure => simp only [intOf]; omega
                  · obtain rfl : b = true := by
                      have h := HB.out
                      rw [List.take_of_length_le (by omega)] at h
                      rw [h]; exact decide_eq_true HA.out.g
                    clear HB B8
                    have B8 := hB3
                    clear hB3
                    go_wp2
                    go_roundw
                    case rel => exact ⟨i + 1, by omega, by go_num, B8⟩
                    case measure => simp only [intOf]; omega
          ·
            obtain ⟨x, y, b, hL⟩ := lst_at HFS.out HOK.out hn (by omega) hmb
            have HL := Lib.hid hL
            clear hL
            obtain ⟨cF, fF, zF⟩ := (xF_6.below hB2).out
            go_wp2_with fail
            clear hlt hi
            refine (nearS_eq HL.out.r _).mono ?_
            rintro e w9 ⟨rfl, hb9⟩
            have B9 : Bl w6 w9 := bl_call hB2 hb9
            clear cF fF zF
            obtain ⟨cF, fF, zF⟩ := (xF_6.below B9).out
            go_wp2_with fail
            refine (isFirS_eq HL.out.c _).mono ?_
            rintro e wf ⟨rfl, hbf⟩
            have Bf : Bl w6 wf := bl_call (bl_alloc B9 _) hbf
            have BF : Bl w wf := bl_call B6 Bf
            obtain ⟨cL, fL, zL⟩ := ((Bx.new (b := w9.heap.size) _ #[.int .i64 x, .int .i64 y] 55 rfl).below hbf).out
            clear cF fF zF
            obtain ⟨cF, fF, zF⟩ := (xF_6.below Bf).out
            have hyu : yielded.match_1 (fun _ => Option Bool) (some undef) (fun b => some b) (fun _ => none) = none := rfl
            cases b with
            | false =>
              go_wp2_with fail
              go_quiet (fail)
              rename_i nq
              have BFq : Bl w (wf.drewN nq) := bl_call BF (Drawn.below ⟨_, rfl⟩ _)
              go_wp2
              go_ret
              exact ⟨rfl, BFq⟩
            | true =>
              obtain ⟨hg, hl0⟩ := HL.out.l rfl
              obtain ⟨j, hj⟩ : ∃ j, j = fs.length - 1 := ⟨_, rfl⟩
              rw [← hj] at hg
              have hjl : j < fs.length := by omega
              have hj0 : (0 : Int) ≤ (j : Int) := by omega
              have hj1 : (j : Int) < (fs.length : Int) := by omega
              have hw1 : IntKind.i64.wrap ((fs.length : Int) - 1) = (j : Int) := by rw [IntKind.wrap_i64]; omega
              have hd0 : decide ((0 : Int) < (fs.length : Int)) = true := decide_eq_true (by omega)
              have hd1 : decide (0 < fs.length) = true := decide_eq_true (by omega)
              obtain ⟨p, o, rfl, u, v, hu, d1, d2⟩ := HF.out.cellAt Bf hjl
              obtain ⟨rfl, rfl⟩ : u = x ∧ v = y := by
                rw [hu] at hg
                simpa using hg
              clear hu hg hj hl0
              go_wp2_with fail
              go_quiet (fail)
              rename_i nq
              have BFq : Bl w (wf.drewN nq) := bl_call BF (Drawn.below ⟨_, rfl⟩ _)
              go_wp2
              go_ret
              exact ⟨by first | rfl | (simp; done), BFq⟩

set_option maxRecDepth 100000 in
theorem fnBest_lifted (os : Os) (started : os.Started) (H : Type) (enc : TypeId × Value → H) :
    ReturnsInHanded {} Try.checked os 7 .any (Rows.fnBestSpec.pre6 enc Try.prog Try.f7 Rows.fnBestRow.domain false) (Rows.fnBestSpec.post enc Try.prog Try.f7 false true false false) := by
  refine returnsInHanded_of_change (C := Try.checked) own started (by kernel_rfl) Try.func7
    (ChangeSpec.witness6 (enc := enc) (C := Try.checked) false ⟨#[], #[.slice none 0 0, .slice none 0 0], []⟩ 8 (by kernel_rfl) (by kernel_rfl) (by kernel_rfl) (by kernel_rfl)) ?_
  intro W base args ds gs before hval0 hW hcnd _
  have hval : ∀ (j : Nat) t v, Try.f7.params[j]? = some t → args[j]? = some v → Value.okWide Try.prog W .any base t v := hval0
  have hW' := hW
  obtain ⟨p, q, hA0, hV, rfl, hfz, hnd⟩ := hW
  have hA : DataW.TrodAll enc Try.prog W 0 (fun _ => true) true Try.f7.params.toList args.toList ds p := hA0
  rw [Try.params7] at hA hval
  obtain ⟨v0, vs0, d0, ds0, p0, q0, hargs, rfl, rfl, h0, r0⟩ := trodAll_cons hA
  obtain ⟨v1, vs1, d1, ds1, p1, q1, rfl, rfl, rfl, h1, r1⟩ := trodAll_cons r0
  obtain ⟨rfl, rfl, rfl⟩ := trodAll_nil r1
  obtain rfl : args = #[v0, v1] := by cases args; simp_all
  obtain ⟨rfl, rfl⟩ := trodVars_none hV
  have k0 := h0
  have lt0 : ∀ x ∈ p0, x.block < W.heap.size := by obtain ⟨m, hm⟩ := k0; exact DataW.trod_lt m _ _ _ hm
  have k1 := h1
  have lt1 : ∀ x ∈ p1, x.block < W.heap.size := by obtain ⟨m, hm⟩ := k1; exact DataW.trod_lt m _ _ _ hm
  obtain ⟨x0, S0⟩ := bytes_of_trod (hval 0 22 v0 rfl rfl) h0
  obtain ⟨x1, S1⟩ := bytes_of_trod (hval 1 22 v1 rfl rfl) h1
  clear hA0 hval0
  refine (lawBest v0 x0 v1 x1 W S0 S1).mono fun e W' ⟨he, bel⟩ => ?_
  subst he
  exact ⟨_, rfl, _, _, _, [], _, [], hW', trodAll_mk1 (shut_bool Try.underlying4 _), (trodAll_cons_mk (Below.trod laidOut (by kernel_rfl) (of_decide_eq_true (by kernel_rfl)) k0 bel lt0) (trodAll_cons_mk (Below.trod laidOut (by kernel_rfl) (of_decide_eq_true (by kernel_rfl)) k1 bel lt1) trodAll_mk0)), rfl, bel.frame _, fun h => by cases h⟩

/-- THE STATEMENT. -/
theorem fnBest_holds : Rows.FnBestSaid :=
  OpenClaim.holds_of_wide 7 Try.f7 rfl rfl rfl rfl rfl rfl rfl ⟨rfl, rfl, rfl, rfl, rfl⟩ rfl rfl rfl rfl rfl (by kernel_rfl) Try.func7 (by kernel_rfl)
    (of_decide_eq_true (by kernel_rfl)) (by unfold Func.isWrapper; first | (rw [if_pos (by decide +kernel)]; kernel_rfl) | (rw [if_neg (by decide +kernel)]; exact ⟨rfl, rfl⟩))
    (fun os started H enc _ => fnBest_lifted os started H enc)
#print axioms fnBest_holds

end Go.Proofs.Ytgmofofokhlhnaa
