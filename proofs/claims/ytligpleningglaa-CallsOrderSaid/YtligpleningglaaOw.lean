/- CallsOrder, walked and told: true for every net. -/
import Derived.Test.YtligpleningglaaOl
import Derived.Test.YtligpleningglaaOg
namespace Go.Proofs.Ytligpleningglaa.Cw
open Go Go.RowKit Go.Proofs.YtligpleningglaaW.PrintWords Go.Proofs.Ytligpleningglaa.F
theorem order_walk (A : Option Addr) (len cap : Nat) (l : List (List Int)) (W : World) (hl : l.length = len) (hlc : len ≤ cap) (hC : Kd.C (Kd.slice 3 (Kd.int .i64)) W A len l) (hnet : netOk l = true) :
    Calls Try.prog 6 #[.slice A len cap] W fun e W' => e = .returned (.bool true) ∧ Below W.heap.size W W' := by
  subst hl
  obtain ⟨k, hk⟩ := order_plain hnet
  exact smithylaw19_CallsOrder.calls k A cap l true W hC hlc hk
end Go.Proofs.Ytligpleningglaa.Cw
