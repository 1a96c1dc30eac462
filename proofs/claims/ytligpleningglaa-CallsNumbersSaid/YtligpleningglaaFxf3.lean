-- printed by px2.py, a program of this session, by way of the kit's print; Lean checks it
import Derived.Test.YtligpleningglaaFx0
import Derived.Test.YtligpleningglaaRn
namespace Go.Proofs.Ytligpleningglaa.F
open Go.RowKit Go.Proofs.YtligpleningglaaW.PrintWords Go.Proofs.YtligpleningglaaW.PrintLast Go.Proofs.YtligpleningglaaW.PrintMore
attribute [local go_sem] max2_int min2_int max_two min_two max_three min_three max_four min_four   -- for this text's walks alone
set_option linter.unusedVariables false
set_option linter.unusedSimpArgs false

/-! ### smithylaw19_CallsParts: function 3 -/
def smithylaw19_CallsParts.f (l0 : List (List Int)) : Option (Bool) := if Cw.netOk l0 = true then some true else none
theorem smithylaw19_CallsParts.calls (A0 : Option Addr) (c0 : Nat) (l0 : List (List Int)) (r : Bool) (w : World) (hr0 : Kd.C (Kd.slice 3 (Kd.int .i64)) w A0 l0.length l0) (hc0 : l0.length ≤ c0) (h : smithylaw19_CallsParts.f l0 = some r) :
    Calls Try.prog 3 #[.slice A0 l0.length c0] w fun e w' => e = .returned (.bool r) ∧ Below w.heap.size w w' := by
  unfold smithylaw19_CallsParts.f at h
  split at h
  · rename_i hn
    obtain rfl : true = r := Option.some.inj h
    exact Cw.lawParts_true w A0 c0 l0 hr0 hc0 hn
  · cases h

end Go.Proofs.Ytligpleningglaa.F
