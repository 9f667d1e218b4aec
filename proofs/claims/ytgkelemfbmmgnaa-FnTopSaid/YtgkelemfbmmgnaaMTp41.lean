/- Some of the texts of this claim, joined in one file: TpW, SqM. -/
import Derived.Test.YtgkelemfbmmgnaaMTp31
import Derived.Test.YtgkelemfbmmgnaaMTp40
import Derived.Laws.FloatArith
import Derived.Laws.Cover2
import Derived.Test.YtgkelemfbmmgnaaMTp1
/- FnTop: small walks. Each theorem names its conditions. -/
namespace Go.Proofs.Ytgkelemfbmmgnaa
open Go.RowKit
set_option linter.unusedVariables false
set_option linter.unusedSimpArgs false

theorem okT_eq {n d : Int} {b : Bool} (h : okF n d = b) (w : World) : Calls Try.prog 54 #[.agg #[.int .i64 n, .int .i64 d]] w fun e w' => e = .returned (.bool b) ∧ Bl w w' := h ▸ ok_any n d w
/-- A multiple in lowest terms. -/
theorem low_facts {k q m : Int} (hk : -200000 ≤ k ∧ k ≤ 200000) (hq : 1 ≤ q ∧ q ≤ m) (hm : m ≤ 60) : ∃ u v, lowF k q = (u, v) ∧ okF u v = true ∧ (1 ≤ v ∧ v ≤ m) ∧ (-1000000 ≤ u ∧ u ≤ 1000000) := by
  have h1 := full_pos (u := k) (v := q) (by omega) (by omega)
  have h2 := full_okV h1
  refine ⟨(lowF k q).1, (lowF k q).2, rfl, h2, ?_⟩
  have b := lowF_small (x := k) (q := q) (m := 200000) hq.1 (by omega) hk
  have c : (lowF k q).2 ≤ q := Int.ediv_le_self _ (by omega)
  omega
set_option maxRecDepth 100000 in
set_option maxHeartbeats 3200000 in
theorem two_okT {n d x y : Int} (h1 : okF n d = true) (h2 : okF x y = true) (w : World) :
    Calls Try.prog 90 #[.agg #[.int .i64 n, .int .i64 d], .agg #[.int .i64 x, .int .i64 y]] w fun e w' => e = .returned (.int .i64 0) ∧ Bl w w' := by
  have H1 := Lib.hid h1
  have H2 := Lib.hid h2
  clear h1 h2
  go_enter Try.func90, Try.ntmps90
  go_wp2_with fail
  refine (okT_eq H1.out _).mono ?_
  rintro e w1 ⟨rfl, hb1⟩
  have B1 : Bl w w1 := bl_call (bl_alloc (bl_alloc (bl_refl _) _) _) hb1
  have xA_1 : Bx w1 (w.heap.size) #[.int .i64 n, .int .i64 d] := ((Bx.new (b := w.heap.size) _ #[.int .i64 n, .int .i64 d] 44 (by first | rfl | simp)).alloc _).below hb1
  have xB_1 : Bx w1 (w.heap.size + 1) #[.int .i64 x, .int .i64 y] := (Bx.new (b := w.heap.size + 1) _ #[.int .i64 x, .int .i64 y] 44 (by first | rfl | simp)).below hb1
  obtain ⟨cA_1, fA_1, zA_1⟩ := xA_1.out
  obtain ⟨cB_1, fB_1, zB_1⟩ := xB_1.out
  go_wp2_with fail
  refine (okT_eq H2.out _).mono ?_
  rintro e w2 ⟨rfl, hb2⟩
  have B2 : Bl w w2 := bl_call B1 hb2
  have xA_2 : Bx w2 (w.heap.size) #[.int .i64 n, .int .i64 d] := xA_1.below hb2
  have xB_2 : Bx w2 (w.heap.size + 1) #[.int .i64 x, .int .i64 y] := xB_1.below hb2
  clear cA_1 fA_1 zA_1 cB_1 fB_1 zB_1
  obtain ⟨cA_2, fA_2, zA_2⟩ := xA_2.out
  obtain ⟨cB_2, fB_2, zB_2⟩ := xB_2.out
  go_wp2
  go_ret
  exact ⟨rfl, B2⟩
set_option maxRecDepth 100000 in
set_option maxHeartbeats 3200000 in
theorem sadd_any {n d m e p q c : Int} (w : World) (h1 : okF n d = true) (h2 : okF m e = true) (bn : -300 ≤ n ∧ n ≤ 300) (bd : 1 ≤ d ∧ d ≤ 300) (bm : -300 ≤ m ∧ m ≤ 300) (be : 1 ≤ e ∧ e ≤ 300)  (he : fullF (n * e + m * d) (d * e) = (p, q, c)) :
    Calls Try.prog 56 #[.agg #[.int .i64 n, .int .i64 d], .agg #[.int .i64 m, .int .i64 e]] w fun r w' => r = .returned (.tuple #[.agg #[.int .i64 p, .int .i64 q], .int .i64 c]) ∧ Bl w w' := by
  have H1 := Lib.hid h1
  have H2 := Lib.hid h2
  have HE := Lib.hid he
  have m1 := mulU (Y := 300) (by omega) bn (show -300 ≤ e ∧ e ≤ 300 by omega)
  have m2 := mulU (Y := 300) (by omega) bm (show -300 ≤ d ∧ d ≤ 300 by omega)
  have m3 := mulU (Y := 300) (by omega) bn bm
  have m4 := mulU (X := 300) (Y := 300) (x := d) (y := e) (by omega) (by omega) (by omega)
  have m5 := mulU (X := 300) (Y := 300) (x := d) (y := m) (by omega) (by omega) (by omega)
  clear h1 h2 he
  go_enter Try.func56, Try.ntmps56
  go_wp2_with fail
  refine (two_okT H1.out H2.out _).mono ?_
  rintro e w1 ⟨rfl, hb1⟩
  have B1 : Bl w w1 := bl_call (bl_alloc (bl_alloc (bl_alloc (bl_refl _) _) _) _) hb1
  have xA_1 : Bx w1 (w.heap.size) #[.int .i64 n, .int .i64 d] := (((Bx.new (b := w.heap.size) _ #[.int .i64 n, .int .i64 d] 44 (by first | rfl | simp)).alloc _).alloc _).below hb1
  have xB_1 : Bx w1 (w.heap.size + 1) #[.int .i64 m, .int .i64 e] := ((Bx.new (b := w.heap.size + 1) _ #[.int .i64 m, .int .i64 e] 44 (by first | rfl | simp)).alloc _).below hb1
  have xR_1 : Bx w1 (w.heap.size + 1 + 1) #[.int .i64 0, .int .i64 0] := (Bx.new (b := w.heap.size + 1 + 1) _ #[.int .i64 0, .int .i64 0] 44 (by first | rfl | simp)).below hb1
  obtain ⟨cA_1, fA_1, zA_1⟩ := xA_1.out
  obtain ⟨cB_1, fB_1, zB_1⟩ := xB_1.out
  obtain ⟨cR_1, fR_1, zR_1⟩ := xR_1.out
  go_wp2_with fail
  refine (full_any (n * e + m * d) (d * e) _ (by omega) (by omega) (ne_mul (by omega) (by omega)) (by omega) (by omega)).mono ?_
  rintro r w9 ⟨rfl, hb9⟩
  have B9 : Bl w w9 := bl_call B1 hb9
  have xR9 := xR_1.below hb9
  clear cA_1 fA_1 zA_1 cB_1 fB_1 zB_1 cR_1 fR_1 zR_1
  obtain ⟨cR9, fR9, zR9⟩ := xR9.out
  rw [HE.out]
  go_wp2
  refine bodyPost_ret (v := .tuple #[.agg #[.int .i64 p, .int .i64 q], .int .i64 c]) (by simp only [results, Try.results56]; go_simp) rfl ?_
  exact ⟨rfl, (bl_set (bl_set B9 (p := ⟨w.heap.size + 1 + 1, 0, none⟩) (by first | (simp; done) | (simp; omega)) _) (p := ⟨w.heap.size + 1 + 1, 1, none⟩) (by first | (simp; done) | (simp; omega)) _)⟩
set_option maxRecDepth 100000 in
set_option maxHeartbeats 3200000 in
theorem ssub_any {n d m e p q c : Int} (w : World) (h1 : okF n d = true) (h2 : okF m e = true) (bn : -300 ≤ n ∧ n ≤ 300) (bd : 1 ≤ d ∧ d ≤ 300) (bm : -300 ≤ m ∧ m ≤ 300) (be : 1 ≤ e ∧ e ≤ 300)  (he : fullF (n * e - m * d) (d * e) = (p, q, c)) :
    Calls Try.prog 57 #[.agg #[.int .i64 n, .int .i64 d], .agg #[.int .i64 m, .int .i64 e]] w fun r w' => r = .returned (.tuple #[.agg #[.int .i64 p, .int .i64 q], .int .i64 c]) ∧ Bl w w' := by
  have H1 := Lib.hid h1
  have H2 := Lib.hid h2
  have HE := Lib.hid he
  have m1 := mulU (Y := 300) (by omega) bn (show -300 ≤ e ∧ e ≤ 300 by omega)
  have m2 := mulU (Y := 300) (by omega) bm (show -300 ≤ d ∧ d ≤ 300 by omega)
  have m3 := mulU (Y := 300) (by omega) bn bm
  have m4 := mulU (X := 300) (Y := 300) (x := d) (y := e) (by omega) (by omega) (by omega)
  have m5 := mulU (X := 300) (Y := 300) (x := d) (y := m) (by omega) (by omega) (by omega)
  clear h1 h2 he
  go_enter Try.func57, Try.ntmps57
  go_wp2_with fail
  refine (two_okT H1.out H2.out _).mono ?_
  rintro e w1 ⟨rfl, hb1⟩
  have B1 : Bl w w1 := bl_call (bl_alloc (bl_alloc (bl_alloc (bl_refl _) _) _) _) hb1
  have xA_1 : Bx w1 (w.heap.size) #[.int .i64 n, .int .i64 d] := (((Bx.new (b := w.heap.size) _ #[.int .i64 n, .int .i64 d] 44 (by first | rfl | simp)).alloc _).alloc _).below hb1
  have xB_1 : Bx w1 (w.heap.size + 1) #[.int .i64 m, .int .i64 e] := ((Bx.new (b := w.heap.size + 1) _ #[.int .i64 m, .int .i64 e] 44 (by first | rfl | simp)).alloc _).below hb1
  have xR_1 : Bx w1 (w.heap.size + 1 + 1) #[.int .i64 0, .int .i64 0] := (Bx.new (b := w.heap.size + 1 + 1) _ #[.int .i64 0, .int .i64 0] 44 (by first | rfl | simp)).below hb1
  obtain ⟨cA_1, fA_1, zA_1⟩ := xA_1.out
  obtain ⟨cB_1, fB_1, zB_1⟩ := xB_1.out
  obtain ⟨cR_1, fR_1, zR_1⟩ := xR_1.out
  go_wp2_with fail
  refine (full_any (n * e - m * d) (d * e) _ (by omega) (by omega) (ne_mul (by omega) (by omega)) (by omega) (by omega)).mono ?_
  rintro r w9 ⟨rfl, hb9⟩
  have B9 : Bl w w9 := bl_call B1 hb9
  have xR9 := xR_1.below hb9
  clear cA_1 fA_1 zA_1 cB_1 fB_1 zB_1 cR_1 fR_1 zR_1
  obtain ⟨cR9, fR9, zR9⟩ := xR9.out
  rw [HE.out]
  go_wp2
  refine bodyPost_ret (v := .tuple #[.agg #[.int .i64 p, .int .i64 q], .int .i64 c]) (by simp only [results, Try.results57]; go_simp) rfl ?_
  exact ⟨rfl, (bl_set (bl_set B9 (p := ⟨w.heap.size + 1 + 1, 0, none⟩) (by first | (simp; done) | (simp; omega)) _) (p := ⟨w.heap.size + 1 + 1, 1, none⟩) (by first | (simp; done) | (simp; omega)) _)⟩
set_option maxRecDepth 100000 in
set_option maxHeartbeats 3200000 in
theorem smul_any {n d m e p q c : Int} (w : World) (h1 : okF n d = true) (h2 : okF m e = true) (bn : -300 ≤ n ∧ n ≤ 300) (bd : 1 ≤ d ∧ d ≤ 300) (bm : -300 ≤ m ∧ m ≤ 300) (be : 1 ≤ e ∧ e ≤ 300)  (he : fullF (n * m) (d * e) = (p, q, c)) :
    Calls Try.prog 58 #[.agg #[.int .i64 n, .int .i64 d], .agg #[.int .i64 m, .int .i64 e]] w fun r w' => r = .returned (.tuple #[.agg #[.int .i64 p, .int .i64 q], .int .i64 c]) ∧ Bl w w' := by
  have H1 := Lib.hid h1
  have H2 := Lib.hid h2
  have HE := Lib.hid he
  have m1 := mulU (Y := 300) (by omega) bn (show -300 ≤ e ∧ e ≤ 300 by omega)
  have m2 := mulU (Y := 300) (by omega) bm (show -300 ≤ d ∧ d ≤ 300 by omega)
  have m3 := mulU (Y := 300) (by omega) bn bm
  have m4 := mulU (X := 300) (Y := 300) (x := d) (y := e) (by omega) (by omega) (by omega)
  have m5 := mulU (X := 300) (Y := 300) (x := d) (y := m) (by omega) (by omega) (by omega)
  clear h1 h2 he
  go_enter Try.func58, Try.ntmps58
  go_wp2_with fail
  refine (two_okT H1.out H2.out _).mono ?_
  rintro e w1 ⟨rfl, hb1⟩
  have B1 : Bl w w1 := bl_call (bl_alloc (bl_alloc (bl_alloc (bl_refl _) _) _) _) hb1
  have xA_1 : Bx w1 (w.heap.size) #[.int .i64 n, .int .i64 d] := (((Bx.new (b := w.heap.size) _ #[.int .i64 n, .int .i64 d] 44 (by first | rfl | simp)).alloc _).alloc _).below hb1
  have xB_1 : Bx w1 (w.heap.size + 1) #[.int .i64 m, .int .i64 e] := ((Bx.new (b := w.heap.size + 1) _ #[.int .i64 m, .int .i64 e] 44 (by first | rfl | simp)).alloc _).below hb1
  have xR_1 : Bx w1 (w.heap.size + 1 + 1) #[.int .i64 0, .int .i64 0] := (Bx.new (b := w.heap.size + 1 + 1) _ #[.int .i64 0, .int .i64 0] 44 (by first | rfl | simp)).below hb1
  obtain ⟨cA_1, fA_1, zA_1⟩ := xA_1.out
  obtain ⟨cB_1, fB_1, zB_1⟩ := xB_1.out
  obtain ⟨cR_1, fR_1, zR_1⟩ := xR_1.out
  go_wp2_with fail
  refine (full_any (n * m) (d * e) _ (by omega) (by omega) (ne_mul (by omega) (by omega)) (by omega) (by omega)).mono ?_
  rintro r w9 ⟨rfl, hb9⟩
  have B9 : Bl w w9 := bl_call B1 hb9
  have xR9 := xR_1.below hb9
  clear cA_1 fA_1 zA_1 cB_1 fB_1 zB_1 cR_1 fR_1 zR_1
  obtain ⟨cR9, fR9, zR9⟩ := xR9.out
  rw [HE.out]
  go_wp2
  refine bodyPost_ret (v := .tuple #[.agg #[.int .i64 p, .int .i64 q], .int .i64 c]) (by simp only [results, Try.results58]; go_simp) rfl ?_
  exact ⟨rfl, (bl_set (bl_set B9 (p := ⟨w.heap.size + 1 + 1, 0, none⟩) (by first | (simp; done) | (simp; omega)) _) (p := ⟨w.heap.size + 1 + 1, 1, none⟩) (by first | (simp; done) | (simp; omega)) _)⟩
set_option maxRecDepth 100000 in
set_option maxHeartbeats 3200000 in
theorem sdiv_any {n d m e p q c : Int} (w : World) (h1 : okF n d = true) (h2 : okF m e = true) (bn : -300 ≤ n ∧ n ≤ 300) (bd : 1 ≤ d ∧ d ≤ 300) (bm : -300 ≤ m ∧ m ≤ 300) (be : 1 ≤ e ∧ e ≤ 300) (hz : m ≠ 0) (he : fullF (n * e) (d * m) = (p, q, c)) :
    Calls Try.prog 59 #[.agg #[.int .i64 n, .int .i64 d], .agg #[.int .i64 m, .int .i64 e]] w fun r w' => r = .returned (.tuple #[.agg #[.int .i64 p, .int .i64 q], .int .i64 c]) ∧ Bl w w' := by
  have H1 := Lib.hid h1
  have H2 := Lib.hid h2
  have HE := Lib.hid he
  have m1 := mulU (Y := 300) (by omega) bn (show -300 ≤ e ∧ e ≤ 300 by omega)
  have m2 := mulU (Y := 300) (by omega) bm (show -300 ≤ d ∧ d ≤ 300 by omega)
  have m3 := mulU (Y := 300) (by omega) bn bm
  have m4 := mulU (X := 300) (Y := 300) (x := d) (y := e) (by omega) (by omega) (by omega)
  have m5 := mulU (X := 300) (Y := 300) (x := d) (y := m) (by omega) (by omega) (by omega)
  clear h1 h2 he
  go_enter Try.func59, Try.ntmps59
  go_wp2_with fail
  refine (two_okT H1.out H2.out _).mono ?_
  rintro e w1 ⟨rfl, hb1⟩
  have B1 : Bl w w1 := bl_call (bl_alloc (bl_alloc (bl_alloc (bl_refl _) _) _) _) hb1
  have xA_1 : Bx w1 (w.heap.size) #[.int .i64 n, .int .i64 d] := (((Bx.new (b := w.heap.size) _ #[.int .i64 n, .int .i64 d] 44 (by first | rfl | simp)).alloc _).alloc _).below hb1
  have xB_1 : Bx w1 (w.heap.size + 1) #[.int .i64 m, .int .i64 e] := ((Bx.new (b := w.heap.size + 1) _ #[.int .i64 m, .int .i64 e] 44 (by first | rfl | simp)).alloc _).below hb1
  have xR_1 : Bx w1 (w.heap.size + 1 + 1) #[.int .i64 0, .int .i64 0] := (Bx.new (b := w.heap.size + 1 + 1) _ #[.int .i64 0, .int .i64 0] 44 (by first | rfl | simp)).below hb1
  obtain ⟨cA_1, fA_1, zA_1⟩ := xA_1.out
  obtain ⟨cB_1, fB_1, zB_1⟩ := xB_1.out
  obtain ⟨cR_1, fR_1, zR_1⟩ := xR_1.out
  have hz2 : (m == 0) = false := by simp [hz]
  go_wp2_with fail
  refine (full_any (n * e) (d * m) _ (by omega) (by omega) (ne_mul (by omega) hz) (by omega) (by omega)).mono ?_
  rintro r w9 ⟨rfl, hb9⟩
  have B9 : Bl w w9 := bl_call B1 hb9
  have xR9 := xR_1.below hb9
  clear cA_1 fA_1 zA_1 cB_1 fB_1 zB_1 cR_1 fR_1 zR_1
  obtain ⟨cR9, fR9, zR9⟩ := xR9.out
  rw [HE.out]
  go_wp2
  refine bodyPost_ret (v := .tuple #[.agg #[.int .i64 p, .int .i64 q], .int .i64 c]) (by simp only [results, Try.results59]; go_simp) rfl ?_
  exact ⟨rfl, (bl_set (bl_set B9 (p := ⟨w.heap.size + 1 + 1, 0, none⟩) (by first | (simp; done) | (simp; omega)) _) (p := ⟨w.heap.size + 1 + 1, 1, none⟩) (by first | (simp; done) | (simp; omega)) _)⟩
set_option maxRecDepth 100000 in
set_option maxHeartbeats 3200000 in
theorem sdivz_any {n d e : Int} (w : World) (h1 : okF n d = true) (h2 : okF 0 e = true) :
    Calls Try.prog 59 #[.agg #[.int .i64 n, .int .i64 d], .agg #[.int .i64 0, .int .i64 e]] w fun r w' => r = .returned (.tuple #[.agg #[.int .i64 0, .int .i64 0], .int .i64 6]) ∧ Bl w w' := by
  have H1 := Lib.hid h1
  have H2 := Lib.hid h2
  clear h1 h2
  go_enter Try.func59, Try.ntmps59
  go_wp2_with fail
  refine (two_okT H1.out H2.out _).mono ?_
  rintro e w1 ⟨rfl, hb1⟩
  have B1 : Bl w w1 := bl_call (bl_alloc (bl_alloc (bl_alloc (bl_refl _) _) _) _) hb1
  have xA_1 : Bx w1 (w.heap.size) #[.int .i64 n, .int .i64 d] := (((Bx.new (b := w.heap.size) _ #[.int .i64 n, .int .i64 d] 44 (by first | rfl | simp)).alloc _).alloc _).below hb1
  have xB_1 : Bx w1 (w.heap.size + 1) #[.int .i64 0, .int .i64 e] := ((Bx.new (b := w.heap.size + 1) _ #[.int .i64 0, .int .i64 e] 44 (by first | rfl | simp)).alloc _).below hb1
  have xR_1 : Bx w1 (w.heap.size + 1 + 1) #[.int .i64 0, .int .i64 0] := (Bx.new (b := w.heap.size + 1 + 1) _ #[.int .i64 0, .int .i64 0] 44 (by first | rfl | simp)).below hb1
  obtain ⟨cA_1, fA_1, zA_1⟩ := xA_1.out
  obtain ⟨cB_1, fB_1, zB_1⟩ := xB_1.out
  obtain ⟨cR_1, fR_1, zR_1⟩ := xR_1.out
  go_wp2
  refine bodyPost_ret (v := .tuple #[.agg #[.int .i64 0, .int .i64 0], .int .i64 6]) (by simp only [results, Try.results59]; go_simp) rfl ?_
  exact ⟨rfl, (bl_set (bl_set B1 (p := ⟨w.heap.size + 1 + 1, 0, none⟩) (by first | (simp; done) | (simp; omega)) _) (p := ⟨w.heap.size + 1 + 1, 1, none⟩) (by first | (simp; done) | (simp; omega)) _)⟩
set_option maxRecDepth 100000 in
set_option maxHeartbeats 6400000 in
theorem lres_any {op n d m e p q c : Int} (w : World) (hop : 1 ≤ op ∧ op ≤ 4) (h1 : okF n d = true) (h2 : okF m e = true) (bn : -300 ≤ n ∧ n ≤ 300) (bd : 1 ≤ d ∧ d ≤ 300) (bm : -300 ≤ m ∧ m ≤ 300) (be : 1 ≤ e ∧ e ≤ 300) (hr : arF op n d m e = (p, q, c)) :
    Calls Try.prog 24 #[.int .i64 op, .agg #[.int .i64 n, .int .i64 d], .agg #[.int .i64 m, .int .i64 e]] w fun r w' => r = .returned (.tuple #[.agg #[.int .i64 p, .int .i64 q], .int .i64 c]) ∧ Bl w w' := by
  have H1 := Lib.hid h1
  have H2 := Lib.hid h2
  clear h1 h2
  rcases (show op = 1 ∨ op = 2 ∨ op = 3 ∨ op = 4 by omega) with rfl | rfl | rfl | rfl
  · rw [arF, if_pos rfl] at hr
    have HR := Lib.hid hr
    clear hr hop
    go_enter Try.func24, Try.ntmps24
    go_wp2_with fail
    refine (sadd_any _ H1.out H2.out bn bd bm be HR.out).mono ?_
    rintro e w1 ⟨rfl, hb1⟩
    have B1 : Bl w w1 := bl_call (bl_alloc (bl_alloc (bl_alloc (bl_refl _) _) _) _) hb1
    have xA_1 : Bx w1 (w.heap.size) #[.int .i64 n, .int .i64 d] := (((Bx.new (b := w.heap.size) _ #[.int .i64 n, .int .i64 d] 44 (by first | rfl | simp)).alloc _).alloc _).below hb1
    have xB_1 : Bx w1 (w.heap.size + 1) #[.int .i64 m, .int .i64 e] := ((Bx.new (b := w.heap.size + 1) _ #[.int .i64 m, .int .i64 e] 44 (by first | rfl | simp)).alloc _).below hb1
    have xR_1 : Bx w1 (w.heap.size + 1 + 1) #[.int .i64 0, .int .i64 0] := (Bx.new (b := w.heap.size + 1 + 1) _ #[.int .i64 0, .int .i64 0] 44 (by first | rfl | simp)).below hb1
    obtain ⟨cA_1, fA_1, zA_1⟩ := xA_1.out
    obtain ⟨cB_1, fB_1, zB_1⟩ := xB_1.out
    obtain ⟨cR_1, fR_1, zR_1⟩ := xR_1.out
    go_wp2
    refine bodyPost_ret (v := .tuple #[.agg #[.int .i64 p, .int .i64 q], .int .i64 c]) (by simp only [results, Try.results24]; go_simp) rfl ?_
    exact ⟨rfl, (bl_set (bl_set B1 (p := ⟨w.heap.size + 1 + 1, 0, none⟩) (by first | (simp; done) | (simp; omega)) _) (p := ⟨w.heap.size + 1 + 1, 1, none⟩) (by first | (simp; done) | (simp; omega)) _)⟩
  · rw [arF, if_neg (by omega), if_pos rfl] at hr
    have HR := Lib.hid hr
    clear hr hop
    go_enter Try.func24, Try.ntmps24
    go_wp2_with fail
    refine (ssub_any _ H1.out H2.out bn bd bm be HR.out).mono ?_
    rintro e w1 ⟨rfl, hb1⟩
    have B1 : Bl w w1 := bl_call (bl_alloc (bl_alloc (bl_alloc (bl_refl _) _) _) _) hb1
    have xA_1 : Bx w1 (w.heap.size) #[.int .i64 n, .int .i64 d] := (((Bx.new (b := w.heap.size) _ #[.int .i64 n, .int .i64 d] 44 (by first | rfl | simp)).alloc _).alloc _).below hb1
    have xB_1 : Bx w1 (w.heap.size + 1) #[.int .i64 m, .int .i64 e] := ((Bx.new (b := w.heap.size + 1) _ #[.int .i64 m, .int .i64 e] 44 (by first | rfl | simp)).alloc _).below hb1
    have xR_1 : Bx w1 (w.heap.size + 1 + 1) #[.int .i64 0, .int .i64 0] := (Bx.new (b := w.heap.size + 1 + 1) _ #[.int .i64 0, .int .i64 0] 44 (by first | rfl | simp)).below hb1
    obtain ⟨cA_1, fA_1, zA_1⟩ := xA_1.out
    obtain ⟨cB_1, fB_1, zB_1⟩ := xB_1.out
    obtain ⟨cR_1, fR_1, zR_1⟩ := xR_1.out
    go_wp2
    refine bodyPost_ret (v := .tuple #[.agg #[.int .i64 p, .int .i64 q], .int .i64 c]) (by simp only [results, Try.results24]; go_simp) rfl ?_
    exact ⟨rfl, (bl_set (bl_set B1 (p := ⟨w.heap.size + 1 + 1, 0, none⟩) (by first | (simp; done) | (simp; omega)) _) (p := ⟨w.heap.size + 1 + 1, 1, none⟩) (by first | (simp; done) | (simp; omega)) _)⟩
  · rw [arF, if_neg (by omega), if_neg (by omega), if_pos rfl] at hr
    have HR := Lib.hid hr
    clear hr hop
    go_enter Try.func24, Try.ntmps24
    go_wp2_with fail
    refine (smul_any _ H1.out H2.out bn bd bm be HR.out).mono ?_
    rintro e w1 ⟨rfl, hb1⟩
    have B1 : Bl w w1 := bl_call (bl_alloc (bl_alloc (bl_alloc (bl_refl _) _) _) _) hb1
    have xA_1 : Bx w1 (w.heap.size) #[.int .i64 n, .int .i64 d] := (((Bx.new (b := w.heap.size) _ #[.int .i64 n, .int .i64 d] 44 (by first | rfl | simp)).alloc _).alloc _).below hb1
    have xB_1 : Bx w1 (w.heap.size + 1) #[.int .i64 m, .int .i64 e] := ((Bx.new (b := w.heap.size + 1) _ #[.int .i64 m, .int .i64 e] 44 (by first | rfl | simp)).alloc _).below hb1
    have xR_1 : Bx w1 (w.heap.size + 1 + 1) #[.int .i64 0, .int .i64 0] := (Bx.new (b := w.heap.size + 1 + 1) _ #[.int .i64 0, .int .i64 0] 44 (by first | rfl | simp)).below hb1
    obtain ⟨cA_1, fA_1, zA_1⟩ := xA_1.out
    obtain ⟨cB_1, fB_1, zB_1⟩ := xB_1.out
    obtain ⟨cR_1, fR_1, zR_1⟩ := xR_1.out
    go_wp2
    refine bodyPost_ret (v := .tuple #[.agg #[.int .i64 p, .int .i64 q], .int .i64 c]) (by simp only [results, Try.results24]; go_simp) rfl ?_
    exact ⟨rfl, (bl_set (bl_set B1 (p := ⟨w.heap.size + 1 + 1, 0, none⟩) (by first | (simp; done) | (simp; omega)) _) (p := ⟨w.heap.size + 1 + 1, 1, none⟩) (by first | (simp; done) | (simp; omega)) _)⟩
  · rw [arF, if_neg (by omega), if_neg (by omega), if_neg (by omega)] at hr
    by_cases hz : m = 0
    · subst hz
      rw [if_pos rfl] at hr
      simp only [Prod.mk.injEq] at hr
      obtain ⟨rfl, rfl, rfl⟩ := hr
      clear hop
      go_enter Try.func24, Try.ntmps24
      go_wp2_with fail
      refine (sdivz_any _ H1.out H2.out).mono ?_
      rintro e w1 ⟨rfl, hb1⟩
      have B1 : Bl w w1 := bl_call (bl_alloc (bl_alloc (bl_alloc (bl_refl _) _) _) _) hb1
      have xA_1 : Bx w1 (w.heap.size) #[.int .i64 n, .int .i64 d] := (((Bx.new (b := w.heap.size) _ #[.int .i64 n, .int .i64 d] 44 (by first | rfl | simp)).alloc _).alloc _).below hb1
      have xB_1 : Bx w1 (w.heap.size + 1) #[.int .i64 0, .int .i64 e] := ((Bx.new (b := w.heap.size + 1) _ #[.int .i64 0, .int .i64 e] 44 (by first | rfl | simp)).alloc _).below hb1
      have xR_1 : Bx w1 (w.heap.size + 1 + 1) #[.int .i64 0, .int .i64 0] := (Bx.new (b := w.heap.size + 1 + 1) _ #[.int .i64 0, .int .i64 0] 44 (by first | rfl | simp)).below hb1
      obtain ⟨cA_1, fA_1, zA_1⟩ := xA_1.out
      obtain ⟨cB_1, fB_1, zB_1⟩ := xB_1.out
      obtain ⟨cR_1, fR_1, zR_1⟩ := xR_1.out
      go_wp2
      refine bodyPost_ret (v := .tuple #[.agg #[.int .i64 0, .int .i64 0], .int .i64 6]) (by simp only [results, Try.results24]; go_simp) rfl ?_
      exact ⟨rfl, (bl_set (bl_set B1 (p := ⟨w.heap.size + 1 + 1, 0, none⟩) (by first | (simp; done) | (simp; omega)) _) (p := ⟨w.heap.size + 1 + 1, 1, none⟩) (by first | (simp; done) | (simp; omega)) _)⟩
    · rw [if_neg hz] at hr
      have HR := Lib.hid hr
      clear hr hop
      go_enter Try.func24, Try.ntmps24
      go_wp2_with fail
      refine (sdiv_any _ H1.out H2.out bn bd bm be hz HR.out).mono ?_
      rintro e w1 ⟨rfl, hb1⟩
      have B1 : Bl w w1 := bl_call (bl_alloc (bl_alloc (bl_alloc (bl_refl _) _) _) _) hb1
      have xA_1 : Bx w1 (w.heap.size) #[.int .i64 n, .int .i64 d] := (((Bx.new (b := w.heap.size) _ #[.int .i64 n, .int .i64 d] 44 (by first | rfl | simp)).alloc _).alloc _).below hb1
      have xB_1 : Bx w1 (w.heap.size + 1) #[.int .i64 m, .int .i64 e] := ((Bx.new (b := w.heap.size + 1) _ #[.int .i64 m, .int .i64 e] 44 (by first | rfl | simp)).alloc _).below hb1
      have xR_1 : Bx w1 (w.heap.size + 1 + 1) #[.int .i64 0, .int .i64 0] := (Bx.new (b := w.heap.size + 1 + 1) _ #[.int .i64 0, .int .i64 0] 44 (by first | rfl | simp)).below hb1
      obtain ⟨cA_1, fA_1, zA_1⟩ := xA_1.out
      obtain ⟨cB_1, fB_1, zB_1⟩ := xB_1.out
      obtain ⟨cR_1, fR_1, zR_1⟩ := xR_1.out
      go_wp2
      refine bodyPost_ret (v := .tuple #[.agg #[.int .i64 p, .int .i64 q], .int .i64 c]) (by simp only [results, Try.results24]; go_simp) rfl ?_
      exact ⟨rfl, (bl_set (bl_set B1 (p := ⟨w.heap.size + 1 + 1, 0, none⟩) (by first | (simp; done) | (simp; omega)) _) (p := ⟨w.heap.size + 1 + 1, 1, none⟩) (by first | (simp; done) | (simp; omega)) _)⟩
set_option maxRecDepth 100000 in
set_option maxHeartbeats 3200000 in
theorem inT_eq {n lo hi : Int} {b : Bool} (h : inB n lo hi = b) (w : World) : Calls Try.prog 73 #[.int .i64 n, .int .i64 lo, .int .i64 hi] w fun e w' => e = .returned (.bool b) ∧ w = w' := h ▸ in_any n lo hi w
set_option maxRecDepth 100000 in
set_option maxHeartbeats 3200000 in
theorem smake_any {n d p q : Int} (w : World) (bn : -1000000 ≤ n ∧ n ≤ 1000000) (bd : 1 ≤ d ∧ d ≤ 1000000) (hl : lowF n d = (p, q)) :
    Calls Try.prog 34 #[.int .i64 n, .int .i64 d] w fun r w' => r = .returned (.tuple #[.agg #[.int .i64 p, .int .i64 q], .int .i64 0]) ∧ Bl w w' := by
  have HE := Lib.hid (show fullF n d = (p, q, 0) by rw [full_pos (by omega) (by omega), hl])
  have E1 := Lib.hid (show inB n (-1000000000000000000) 1000000000000000000 = true from inB_iff.2 (by omega))
  have E2 := Lib.hid (show inB d (-1000000000000000000) 1000000000000000000 = true from inB_iff.2 (by omega))
  have hd0 : (d == 0) = false := by simp; omega
  clear hl
  go_enter Try.func34, Try.ntmps34
  go_wp2_with fail
  have xR : Bx (w.alloc (.cells #[.int .i64 0, .int .i64 0] 44)) w.heap.size #[.int .i64 0, .int .i64 0] := Bx.new (b := w.heap.size) _ _ _ rfl
  have hA : Bl w (w.alloc (.cells #[.int .i64 0, .int .i64 0] 44)) := bl_alloc (bl_refl w) _
  have hsz : w.heap.size + 1 ≤ (w.alloc (.cells #[.int .i64 0, .int .i64 0] 44)).heap.size := by simp
  generalize w.alloc (.cells #[.int .i64 0, .int .i64 0] 44) = wa at *
  refine (inT_eq E1.out _).mono ?_
  rintro e w1 ⟨rfl, rfl⟩
  go_wp2_with fail
  refine (inT_eq E2.out _).mono ?_
  rintro e w1 ⟨rfl, rfl⟩
  go_wp2_with fail
  refine (full_any n d _ (by omega) (by omega) (by omega) (by omega) (by omega)).mono ?_
  rintro e w2 ⟨rfl, hb2⟩
  have B2 := bl_call hA hb2
  have x2 := xR.below hb2
  obtain ⟨cR, fR, zR⟩ := x2.out
  rw [HE.out]
  go_wp2
  refine bodyPost_ret (v := .tuple #[.agg #[.int .i64 p, .int .i64 q], .int .i64 0]) (by simp only [results, Try.results34]; go_simp) rfl ?_
  exact ⟨rfl, bl_set (bl_set B2 (by simp) _) (by simp) _⟩
set_option maxRecDepth 100000 in
set_option maxHeartbeats 3200000 in
theorem a2surd_any {w : World} {v : Value} {bs : List Int} (h : SlB w v bs) (hl : bs.length ≤ 3000) :
    Calls Try.prog 27 #[v] w (SuO w) := by
  obtain ⟨av, cv, rfl, hcv⟩ := h.form
  have HS := Lib.hid h
  clear h
  go_enter Try.func27, Try.ntmps27
  go_wp2_with fail
  have xR : Bx (w.alloc (.cells #[.int .i64 0, .int .i64 0, .int .i64 0] 52)) w.heap.size #[.int .i64 0, .int .i64 0, .int .i64 0] := Bx.new (b := w.heap.size) _ _ _ rfl
  have hA : Bl w (w.alloc (.cells #[.int .i64 0, .int .i64 0, .int .i64 0] 52)) := bl_alloc (bl_refl w) _
  have hsz : w.heap.size + 1 ≤ (w.alloc (.cells #[.int .i64 0, .int .i64 0, .int .i64 0] 52)).heap.size := by simp
  generalize w.alloc (.cells #[.int .i64 0, .int .i64 0, .int .i64 0] 52) = wa at *
  refine (dfrom_any (HS.out.below hA) (by omega)).mono ?_
  rintro e w1 ⟨p, rfl, hD, hb1⟩
  have x1 := xR.below hb1
  have hp := hD.out
  go_wp2_with fail
  refine (sdraw7_any hD (by omega)).mono ?_
  rintro e w2 ⟨x, y, z, rfl, hS2, hU2⟩
  have x2 := x1.upd hU2 (by omega)
  obtain ⟨c2, f2, z2⟩ := x2.out
  have B2 := bl_of_upd (bl_call hA hb1) hU2 (by have := hA.size; omega)
  go_wp2
  refine bodyPost_ret (v := .agg #[.int .i64 x, .int .i64 y, .int .i64 z]) (by simp only [results, Try.results27]; go_simp) rfl ?_
  exact ⟨_, _, _, rfl, bl_set (bl_set (bl_set B2 (by simp) _) (by simp) _) (by simp) _⟩

end Go.Proofs.Ytgkelemfbmmgnaa

/- The square root of a small number as a float, cut to a whole number: a small number. Each theorem names its conditions. -/
namespace Go.Proofs.Ytgkelemfbmmgnaa
open Ieee
set_option linter.unusedVariables false
set_option linter.unusedSimpArgs false

theorem cut_even0 (neg : Bool) (n : Nat) : Toward.even.cut neg n 0 = n := by
  unfold Toward.cut
  have h : (1 <<< min 0 (n.log2 + 2) : Nat) = 1 := by simp
  simp only [h, Nat.div_one, Nat.mod_one]
  simp
theorem log2_lt {n : Nat} (h : n ≠ 0) : 2 ^ n.log2 ≤ n ∧ n < 2 ^ (n.log2 + 1) := ⟨Nat.log2_self_le h, Nat.lt_log2_self⟩
theorem two_pos (k : Nat) : 0 < 2 ^ k := Nat.two_pow_pos k
/-- A number that is rounded to its full digits is at most 2 ^ 53. -/
theorem kept_le {neg : Bool} {M : Nat} (hM : M ≠ 0) : Toward.even.cut neg (M <<< (52 - M.log2)) (M.log2 - 52) ≤ 2 ^ 53 := by
  obtain ⟨h1, h2⟩ := log2_lt hM
  generalize hl : M.log2 = l at *
  rcases Nat.lt_or_ge 52 l with g | g
  · have e : 52 - l = 0 := by omega
    rw [e, Nat.shiftLeft_zero]
    unfold Toward.cut
    rw [hl]
    have hm : min (l - 52) (l + 2) = l - 52 := by omega
    rw [hm]
    have hg : (1 <<< (l - 52) : Nat) = 2 ^ (l - 52) := by rw [Nat.shiftLeft_eq, Nat.one_mul]
    rw [hg]
    have hlow : M / 2 ^ (l - 52) < 2 ^ 53 := by
      rw [Nat.div_lt_iff_lt_mul (two_pos _), ← Nat.pow_add, show 53 + (l - 52) = l + 1 by omega]
      exact h2
    have hmore : ∀ b : Bool, b.toNat ≤ 1 := fun b => by cases b <;> simp
    simp only []
    have := hmore (decide (2 ^ (l - 52) < 2 * (M % 2 ^ (l - 52))) || (2 ^ (l - 52) == 2 * (M % 2 ^ (l - 52)) && M / 2 ^ (l - 52) % 2 == 1))
    omega
  · have e : l - 52 = 0 := by omega
    rw [e, cut_even0, Nat.shiftLeft_eq]
    have : M * 2 ^ (52 - l) < 2 ^ (l + 1) * 2 ^ (52 - l) := Nat.mul_lt_mul_of_pos_right h2 (two_pos _)
    rw [← Nat.pow_add, show l + 1 + (52 - l) = 53 by omega] at this
    omega
/-- Where a number is written whose size is below 2 ^ 13. -/
theorem near_le {M : Nat} {e : Int} (h : e + M.log2 ≤ 12) (he : -200 ≤ e) : ∃ R, double.nearest false M e = R ∧ R ≤ 1040 * 2 ^ 52 := by
  refine ⟨_, rfl, ?_⟩
  unfold Format.nearest
  by_cases hM : M = 0
  · rw [if_pos hM]; simp [Format.word]
  · rw [if_neg hM]
    have hf : (double.fractionBits : Int) = 52 := rfl
    have hlp : double.leastPlace = -1074 := by decide
    have hb : double.binade = 2 ^ 52 := rfl
    have hlast : max (e + (M.log2 : Int) - (double.fractionBits : Int)) double.leastPlace = e + (M.log2 : Int) - 52 := by rw [hf, hlp]; omega
    simp only []
    rw [hlast, hlp, hb]
    have e1 : (e - (e + (M.log2 : Int) - 52)).toNat = 52 - M.log2 := by omega
    have e2 : (e + (M.log2 : Int) - 52 - e).toNat = M.log2 - 52 := by omega
    rw [e1, e2]
    have hk := kept_le (neg := false) hM
    have h3 : (e + (M.log2 : Int) - 52 - -1074).toNat ≤ 1034 := by omega
    generalize Toward.even.cut false (M <<< (52 - M.log2)) (M.log2 - 52) = K at hk
    generalize (e + (M.log2 : Int) - 52 - -1074).toNat = j at h3
    have hmul := Nat.mul_le_mul_right (2 ^ 52) h3
    have hw : ∀ x : Nat, double.word false x = x := fun x => by unfold Format.word; rw [if_neg (by simp)]
    rw [hw]
    clear hlast hlp hb hf e1 e2 hw h he
    have h53 : (2 : Nat) ^ 53 = 2 * 2 ^ 52 := by decide
    rw [h53] at hk
    generalize (2 : Nat) ^ 52 = B at *
    exact Nat.le_trans (Nat.min_le_left _ _) (by omega)
/-- What is read there: a number below 2 ^ 31 when it is cut. -/
theorem read_int {R : Nat} (h : R ≤ 1040 * 2 ^ 52) : ∃ k : Int, floatToIntVal .f64 R .i64 = some k ∧ 0 ≤ k ∧ k ≤ 2147483648 := by
  have hs : double.signWeight = 2 ^ 63 := rfl
  have hb : double.binade = 2 ^ 52 := rfl
  have hi : double.infRung = 2047 * 2 ^ 52 := rfl
  have hlp : double.leastPlace = -1074 := by decide
  have hd0 : R / 2 ^ 63 = 0 := Nat.div_eq_of_lt (by omega)
  have hm0 : R % 2 ^ 63 = R := Nat.mod_eq_of_lt (by omega)
  obtain ⟨mag, pl, hr, hmag, hpl⟩ : ∃ (mag : Nat) (pl : Int), double.read R = .number false mag pl ∧ mag < 2 ^ 53 ∧ pl ≤ -30 := by
    unfold Format.read
    rw [hs, hd0, hm0, hb, hi, hlp]
    simp only []
    by_cases h1 : R < 2 ^ 52
    · rw [if_pos h1]
      exact ⟨R, -1074, rfl, by omega, by omega⟩
    · rw [if_neg h1, if_pos (by omega)]
      have hq : R / 2 ^ 52 ≤ 1040 := by
        rw [Nat.div_le_iff_le_mul_add_pred (by decide)]; omega
      exact ⟨2 ^ 52 + R % 2 ^ 52, _, rfl, by have := Nat.mod_lt R (two_pos 52); omega, by omega⟩
  have hcut : ∃ low : Nat, low ≤ 2147483648 ∧ Toward.zero.cut false (mag <<< pl.toNat) (-pl).toNat = low := by
    have e0 : pl.toNat = 0 := by omega
    rw [e0, Nat.shiftLeft_zero]
    refine ⟨_, ?_, rfl⟩
    unfold Toward.cut
    have hg : ∀ j : Nat, (1 <<< j : Nat) = 2 ^ j := fun j => by rw [Nat.shiftLeft_eq, Nat.one_mul]
    rw [hg]
    simp only [Bool.toNat_false, Nat.add_zero]
    rcases Nat.lt_or_ge (mag.log2 + 2) (-pl).toNat with g | g
    · rw [Nat.min_eq_right (by omega)]
      have hlt : mag < 2 ^ (mag.log2 + 2) := by
        rcases Nat.eq_zero_or_pos mag with z | z
        · rw [z]; exact two_pos _
        · have := (log2_lt (n := mag) (by omega)).2
          have := Nat.pow_le_pow_right (n := 2) (by omega) (show mag.log2 + 1 ≤ mag.log2 + 2 by omega)
          omega
      rw [Nat.div_eq_of_lt hlt]; omega
    · rw [Nat.min_eq_left g]
      have h30 : 2 ^ 22 ≤ 2 ^ (-pl).toNat := Nat.pow_le_pow_right (by omega) (by omega)
      have : mag / 2 ^ (-pl).toNat ≤ mag / 2 ^ 22 := Nat.div_le_div_left h30 (by decide)
      have : mag / 2 ^ 22 < 2 ^ 31 := by rw [Nat.div_lt_iff_lt_mul (by decide)]; omega
      omega
  obtain ⟨low, hl, hc⟩ := hcut
  refine ⟨(low : Int), ?_, by omega, by omega⟩
  unfold floatToIntVal
  have hdec : FloatKind.f64.decode R = .number false mag pl := hr
  have hti : (Datum.number false mag pl).toInt .zero = some (low : Int) := by
    show some (signed false (Toward.zero.cut false (mag <<< pl.toNat) (-pl).toNat) 0) = some (low : Int)
    rw [hc]
    simp [signed]
  rw [hdec, hti]
  refine if_pos ?_
  have : IntKind.i64.min = -9223372036854775808 := by decide
  have : IntKind.i64.max = 9223372036854775807 := by decide
  omega
theorem rootFrom_sq (n todo : Nat) : ∀ root, root * root ≤ n → Datum.rootFrom n todo root * Datum.rootFrom n todo root ≤ n := by
  induction todo with
  | zero => intro root h; exact h
  | succ t ih =>
    intro root h
    rw [Datum.rootFrom]
    split
    · rename_i g; exact ih _ g
    · exact ih _ h

theorem parts {B a K : Nat} (h1 : B ≤ K) (h2 : K < 2 * B) : (a * B + K) / B = a + 1 ∧ (a * B + K) % B = K - B := by
  have e : a * B + K = (K - B) + B * (a + 1) := by rw [Nat.mul_add, Nat.mul_comm B a]; omega
  have hB : 0 < B := by omega
  rw [e]
  refine ⟨?_, ?_⟩
  · rw [Nat.add_mul_div_left _ _ hB, Nat.div_eq_of_lt (by omega)]; omega
  · rw [Nat.add_mul_mod_self_left, Nat.mod_eq_of_lt (by omega)]
theorem near_int {N L : Nat} (hN : N ≠ 0) (hL : N.log2 = L) (h19 : L ≤ 19) : double.read (double.nearest false N 0) = .number false (N * 2 ^ (52 - L)) ((L : Int) - 52) ∧ 2 ^ 52 ≤ N * 2 ^ (52 - L) ∧ N * 2 ^ (52 - L) < 2 ^ 53 := by
  obtain ⟨h1, h2⟩ := log2_lt hN
  rw [hL] at h1 h2
  have b1 : 2 ^ 52 ≤ N * 2 ^ (52 - L) := by
    have := Nat.mul_le_mul_right (2 ^ (52 - L)) h1
    rw [← Nat.pow_add, show L + (52 - L) = 52 by omega] at this
    exact this
  have b2 : N * 2 ^ (52 - L) < 2 ^ 53 := by
    have := Nat.mul_lt_mul_of_pos_right h2 (two_pos (52 - L))
    rw [← Nat.pow_add, show L + 1 + (52 - L) = 53 by omega] at this
    exact this
  refine ⟨?_, b1, b2⟩
  have hf : (double.fractionBits : Int) = 52 := rfl
  have hlp : double.leastPlace = -1074 := by decide
  have hb : double.binade = 2 ^ 52 := rfl
  have hi : double.infRung = 2047 * 2 ^ 52 := rfl
  have hs : double.signWeight = 2048 * 2 ^ 52 := rfl
  have hw : ∀ x : Nat, double.word false x = x := fun x => by unfold Format.word; rw [if_neg (by simp)]
  have hnear : double.nearest false N 0 = (L + 1022) * 2 ^ 52 + N * 2 ^ (52 - L) := by
    unfold Format.nearest
    rw [if_neg hN]
    have hlast : max ((0 : Int) + (N.log2 : Int) - (double.fractionBits : Int)) double.leastPlace = (L : Int) - 52 := by rw [hf, hlp, hL]; omega
    simp only []
    rw [hlast, hlp, hb, hi, hw]
    have e1 : ((0 : Int) - ((L : Int) - 52)).toNat = 52 - L := by omega
    have e2 : ((L : Int) - 52 - 0).toNat = 0 := by omega
    have e3 : ((L : Int) - 52 - -1074).toNat = L + 1022 := by omega
    rw [e1, e2, e3, cut_even0, Nat.shiftLeft_eq]
    have h53 : (2 : Nat) ^ 53 = 2 * 2 ^ 52 := by decide
    rw [h53] at b2
    generalize N * 2 ^ (52 - L) = K at *
    clear hb hi hs hlp hlast e1 e2 e3 h53
    generalize (2 : Nat) ^ 52 = B at *
    have := Nat.mul_le_mul_right B (show L + 1022 ≤ 1041 by omega)
    exact Nat.min_eq_left (by omega)
  rw [hnear]
  have h53 : (2 : Nat) ^ 53 = 2 * 2 ^ 52 := by decide
  rw [h53] at b2
  unfold Format.read
  rw [hs, hb, hi, hlp]
  generalize N * 2 ^ (52 - L) = K at *
  clear hb hi hs hlp hnear h53 h1 h2 hL hN hw
  generalize (2 : Nat) ^ 52 = B at *
  obtain ⟨p1, p2⟩ := parts (a := L + 1022) b1 b2
  have m1 := Nat.mul_le_mul_right B (show L + 1022 ≤ 1041 by omega)
  have m2 := Nat.mul_le_mul_right B (show 0 ≤ L + 1022 by omega)
  have hd0 : ((L + 1022) * B + K) / (2048 * B) = 0 := Nat.div_eq_of_lt (by omega)
  have hm0 : ((L + 1022) * B + K) % (2048 * B) = (L + 1022) * B + K := Nat.mod_eq_of_lt (by omega)
  rw [hd0, hm0]
  simp only []
  rw [if_neg (by omega), if_pos (by omega), p1, p2]
  have e4 : B + (K - B) = K := by omega
  have e5 : (-1074 : Int) + ((L + 1022 + 1 - 1 : Nat) : Int) = (L : Int) - 52 := by omega
  rw [e4, e5]
  rfl
theorem sq_bd {x : Nat} {k : Nat} (h : x * x < 2 ^ (2 * k)) : x < 2 ^ k := by
  rcases Nat.lt_or_ge x (2 ^ k) with g | g
  · exact g
  · have := Nat.mul_le_mul g g
    rw [← Nat.pow_add, show k + k = 2 * k by omega] at this
    omega
/-- The program's first guess at a root is a small number. -/
theorem sqrt_int {n : Int} (h1 : 1 ≤ n) (h2 : n ≤ 1000000) : ∃ r k, FloatKind.f64.format.sqrt (floatOfInt .f64 n) = some r ∧ floatToIntVal .f64 r .i64 = some k ∧ 0 ≤ k ∧ k ≤ 2147483648 := by
  obtain ⟨N, rfl⟩ := Int.eq_ofNat_of_zero_le (show 0 ≤ n by omega)
  have hN : N ≠ 0 := by omega
  have hL : N.log2 ≤ 19 := by
    have := (log2_lt hN).1
    rcases Nat.lt_or_ge 19 N.log2 with g | g
    · have := Nat.pow_le_pow_right (n := 2) (by omega) (show 20 ≤ N.log2 by omega)
      omega
    · exact g
  obtain ⟨hr, hK1, hK2⟩ := near_int hN rfl hL
  have ef : floatOfInt .f64 (N : Int) = double.nearest false N 0 := by
    show double.nearest (decide ((N : Int) < 0)) (N : Int).natAbs 0 = _
    rw [show decide ((N : Int) < 0) = false by simp, Int.natAbs_natCast]
  generalize hKe : N * 2 ^ (52 - N.log2) = K at hr hK1 hK2
  have hroot : ∃ (M : Nat) (e : Int), (double.read (double.nearest false N 0)).root 54 = some (.number false M e) ∧ e + M.log2 ≤ 12 ∧ -200 ≤ e := by
    rw [hr]
    have hK0 : K ≠ 0 := by omega
    have hl : K.log2 = 52 := by
      have a := (log2_lt hK0).1
      have b := (log2_lt hK0).2
      rcases Nat.lt_trichotomy K.log2 52 with g | g | g
      · have := Nat.pow_le_pow_right (n := 2) (by omega) (show K.log2 + 1 ≤ 52 by omega)
        omega
      · exact g
      · have := Nat.pow_le_pow_right (n := 2) (by omega) (show 53 ≤ K.log2 by omega)
        omega
    simp only [Datum.root, hK0, if_false, hl]
    have hmo : ∃ mo : Nat, 2 * 54 - 52 + (((N.log2 : Int) - 52 - ((2 * 54 - 52 : Nat) : Int)) % 2).toNat = mo ∧ 56 ≤ mo ∧ mo ≤ 57 := ⟨_, rfl, by omega, by omega⟩
    obtain ⟨mo, hmoe, hm1, hm2⟩ := hmo
    simp only [Bool.false_eq_true, if_false]
    simp only [Nat.reduceMul, Nat.reduceSub] at hmoe ⊢
    rw [hmoe]
    have hsq := rootFrom_sq (K <<< mo) ((K <<< mo).log2 / 2 + 1) 0 (Nat.zero_le _)
    generalize Datum.rootFrom (K <<< mo) ((K <<< mo).log2 / 2 + 1) 0 = whole at hsq ⊢
    have hw : whole < 2 ^ 55 := by
      refine sq_bd (k := 55) (Nat.lt_of_le_of_lt hsq ?_)
      rw [Nat.shiftLeft_eq]
      have a := Nat.mul_lt_mul_of_pos_right hK2 (two_pos mo)
      rw [← Nat.pow_add] at a
      exact Nat.lt_of_lt_of_le a (Nat.pow_le_pow_right (by omega) (by omega))
    have hb : ∀ b : Bool, b.toNat ≤ 1 := fun b => by cases b <;> simp
    refine ⟨_, _, rfl, ?_, by omega⟩
    have hM : 2 * whole + (whole * whole != K <<< mo).toNat < 2 ^ 56 := by
      have := hb (whole * whole != K <<< mo)
      have e56 : (2 : Nat) ^ 56 = 2 * 2 ^ 55 := by decide
      rw [e56]
      generalize (2 : Nat) ^ 55 = B at *
      omega
    have hlog : (2 * whole + (whole * whole != K <<< mo).toNat).log2 ≤ 55 := by
      generalize 2 * whole + (whole * whole != K <<< mo).toNat = M at hM
      rcases Nat.eq_zero_or_pos M with z | z
      · rw [z]; decide
      · rcases Nat.lt_or_ge 55 M.log2 with g | g
        · have := (log2_lt (n := M) (by omega)).1
          have := Nat.pow_le_pow_right (n := 2) (by omega) (show 56 ≤ M.log2 by omega)
          omega
        · exact g
    omega
  obtain ⟨M, e, he, hle, hge⟩ := hroot
  obtain ⟨R, hR, hR2⟩ := near_le hle hge
  obtain ⟨k, hk, k0, k1⟩ := read_int hR2
  refine ⟨R, k, ?_, hk, k0, k1⟩
  rw [ef]
  show ((double.read (double.nearest false N 0)).root 54).map double.write = some R
  rw [he]
  show some (double.nearest false M e) = some R
  rw [hR]

end Go.Proofs.Ytgkelemfbmmgnaa

