-- printed by px2.py, a program of this session, by way of the kit's print; Lean checks it
import Derived.Test.YtcmbpboeilojmaaGreatFx0
import Derived.Test.YtcmbpboeilojmaaGreatHo
namespace Go.Proofs.YtcmbpboeilojmaaGreat.F
open Go.RowKit Go.Proofs.YtcmbpboeilojmaaGreatW.PrintWords Go.Proofs.YtcmbpboeilojmaaGreatW.PrintLast Go.Proofs.YtcmbpboeilojmaaGreatW.PrintMore
attribute [local go_sem] max2_int min2_int max_two min_two max_three min_three max_four min_four   -- for this text's walks alone
set_option linter.unusedVariables false
set_option linter.unusedSimpArgs false

/-! ### scan_Holds: function 11 -/
def scan_Holds.f (l0 : List (S36)) (l1 : List (S48)) (a2 : Int) : Option (Bool) := Sw.holdsF l0 l1 a2
theorem scan_Holds.calls (A0 : Option Addr) (c0 : Nat) (l0 : List (S36)) (A1 : Option Addr) (c1 : Nat) (l1 : List (S48)) (a2 : Int) (r : Bool) (w : World) (hr0 : Kd.C k36 w A0 l0.length l0) (hc0 : l0.length ≤ c0) (hr1 : Kd.C k48 w A1 l1.length l1) (hc1 : l1.length ≤ c1) (h : scan_Holds.f l0 l1 a2 = some r) :
    Calls Tryz.prog 11 #[.slice A0 l0.length c0, .slice A1 l1.length c1, .int .i64 a2] w fun e w' => e = .returned (.bool r) ∧ Below w.heap.size w w' := by
  unfold scan_Holds.f Sw.holdsF at h
  split at h
  · rename_i hc
    have h' := Option.some.inj h
    have hh := Sw.holds_calls A0 c0 l0 A1 c1 l1 a2 w hr0 hc0 hr1 hc1 hc.1 hc.2
    rw [h'] at hh
    exact hh
  · cases h

end Go.Proofs.YtcmbpboeilojmaaGreat.F
