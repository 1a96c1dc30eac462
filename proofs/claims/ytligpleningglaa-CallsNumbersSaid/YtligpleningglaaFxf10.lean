-- printed by px2.py, a program of this session, by way of the kit's print; Lean checks it
import Derived.Test.YtligpleningglaaFx0
import Derived.Test.YtligpleningglaaPt
namespace Go.Proofs.Ytligpleningglaa.F
open Go.RowKit Go.Proofs.YtligpleningglaaW.PrintWords Go.Proofs.YtligpleningglaaW.PrintLast Go.Proofs.YtligpleningglaaW.PrintMore
attribute [local go_sem] max2_int min2_int max_two min_two max_three min_three max_four min_four   -- for this text's walks alone
set_option linter.unusedVariables false
set_option linter.unusedSimpArgs false

/-! ### calls_Parts: function 10 -/
def calls_Parts.f (l0 : List (List Int)) : Option ((List (List Int)) × Int) := if Cw.netOk l0 = true then some (Cw.resP l0) else none
theorem calls_Parts.calls (A0 : Option Addr) (c0 : Nat) (l0 : List (List Int)) (r1 : List (List Int)) (r2 : Int) (w : World) (hr0 : Kd.C (Kd.slice 3 (Kd.int .i64)) w A0 l0.length l0) (hc0 : l0.length ≤ c0) (h : calls_Parts.f l0 = some (r1, r2)) :
    Calls Try.prog 10 #[.slice A0 l0.length c0] w fun e w' => ∃ v0_ : Value, e = .returned (.tuple #[v0_, .int .i64 r2]) ∧ Kd.S (Kd.slice 3 (Kd.int .i64)) 35 w' w.heap.size (fun _ => True) v0_ r1 ∧ Below w.heap.size w w' := by
  unfold calls_Parts.f at h
  split at h
  · rename_i hn
    have e : Cw.resP l0 = (r1, r2) := Option.some.inj h
    have h1 := Cw.parts_calls w A0 c0 l0 hr0 hc0 hn
    unfold Cw.PSpec at h1
    rw [e] at h1
    exact h1
  · cases h

end Go.Proofs.Ytligpleningglaa.F
