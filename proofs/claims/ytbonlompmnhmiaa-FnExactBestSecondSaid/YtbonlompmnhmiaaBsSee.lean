/- Best approximations: the reference sees a fraction. Each theorem names its conditions. -/
import Derived.Test.YtbonlompmnhmiaaBsRa
import Derived.Test.YtbonlompmnhmiaaBsRb
namespace Go.Proofs.Ytbonlompmnhmiaa
open Go.RowKit
set_option linter.unusedVariables false
set_option linter.unusedSimpArgs false

theorem see_any {w : World} {p B : Nat} {n d x y : Int} {sec : Bool} {a : Option Addr} {c : Nat} {L : List (Int × Int)} (hx : Bx w p #[.int .i64 n, .int .i64 d, .bool sec, .slice a L.length c, .bool false]) (ho : OwnF w B (.slice a L.length c) L) (hB : B ≤ w.heap.size) (hp : (Value.slice a L.length c).ownBlock ≠ some p) (ok : Sm2 n d x y) (hl : L.length ≤ 200) :
    Calls Try.prog 98 #[.pointer (some ⟨p, 0, none⟩), .agg #[.int .i64 x, .int .i64 y]] w (SeeP w p B n d sec (.slice a L.length c) (seeF (bestK sec n d x y) (x, y) L)) := by
  cases sec with
  | false =>
    cases hb : bestK false n d x y with
    | false => exact see_ff hx ho hB hp ok hl hb
    | true => exact see_ft hx ho hB hp ok hl hb
  | true =>
    cases hb : bestK true n d x y with
    | false => exact see_tf hx ho hB hp ok hl hb
    | true => exact see_tt hx ho hB hp ok hl hb

end Go.Proofs.Ytbonlompmnhmiaa
