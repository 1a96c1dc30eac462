-- printed by px2.py, a program of this session, by way of the kit's print; Lean checks it
import Derived.Test.YtligpleningglaaFx0
import Derived.Test.YtligpleningglaaCd
namespace Go.Proofs.Ytligpleningglaa.F
open Go.RowKit Go.Proofs.YtligpleningglaaW.PrintWords Go.Proofs.YtligpleningglaaW.PrintLast Go.Proofs.YtligpleningglaaW.PrintMore
attribute [local go_sem] max2_int min2_int max_two min_two max_three min_three max_four min_four   -- for this text's walks alone
set_option linter.unusedVariables false
set_option linter.unusedSimpArgs false

/-! ### calls_Called: function 14 -/
def calls_Called.f (l0 : List (S42)) : Option ((List (List Int))) := if Cw.callOk l0 = true then some (Cw.calledL l0) else none
theorem calls_Called.calls (A0 : Option Addr) (c0 : Nat) (l0 : List (S42)) (r : List (List Int)) (w : World) (hr0 : Kd.C k42 w A0 l0.length l0) (hc0 : l0.length ≤ c0) (h : calls_Called.f l0 = some r) :
    Calls Try.prog 14 #[.slice A0 l0.length c0] w fun e w' => ∃ v0_ : Value, e = .returned (v0_) ∧ Kd.S (Kd.slice 3 (Kd.int .i64)) 35 w' w.heap.size (fun _ => True) v0_ r ∧ Below w.heap.size w w' := by
  unfold calls_Called.f at h
  split at h
  · rename_i hn
    obtain rfl : Cw.calledL l0 = r := Option.some.inj h
    exact Cw.called_calls w A0 c0 l0 hr0 hc0 hn
  · cases h

end Go.Proofs.Ytligpleningglaa.F
