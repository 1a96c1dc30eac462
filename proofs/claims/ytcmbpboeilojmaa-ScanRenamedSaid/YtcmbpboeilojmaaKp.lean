/- The walk of the law's kept. -/
import Derived.Test.YtcmbpboeilojmaaFx0
namespace Go.Proofs.Ytcmbpboeilojmaa.Sw
open Go Go.RowKit Go.Proofs.YtcmbpboeilojmaaW.PrintWords Go.Proofs.YtcmbpboeilojmaaW.PrintLast Go.Proofs.YtcmbpboeilojmaaW.PrintMore Go.Proofs.Ytcmbpboeilojmaa.F
set_option linter.unusedVariables false
set_option linter.unusedSimpArgs false
def keptG (a b c k : Int) : Int := if 0 ≤ a ∧ k < c then wrap64 (2 * a) else wrap64 (wrap64 (2 * b) + 1)
set_option maxHeartbeats 1000000 in
set_option maxRecDepth 100000 in
theorem kept_calls (a b c k : Int) (w : World) : Calls Try.prog 20 #[.agg #[.int .i64 a, .int .i64 b, .int .i64 c], .int .i64 k] w fun e w' => e = .returned (.int .i64 (keptG a b c k)) ∧ Below w.heap.size w w' := by
  by_cases h1 : 0 ≤ a
  · by_cases h2 : k < c
    · have e0 : keptG a b c k = wrap64 (2 * a) := if_pos ⟨h1, h2⟩
      rw [e0]
      clear e0
      go_enter Try.func20, Try.ntmps20
      go_wp2
      go_ret
      exact ⟨rfl, by repeat (first | exact Below.refl _ _ | apply below_alloc)⟩
    · have e0 : keptG a b c k = wrap64 (wrap64 (2 * b) + 1) := if_neg (fun h => h2 h.2)
      rw [e0]
      clear e0
      go_enter Try.func20, Try.ntmps20
      go_wp2
      go_ret
      exact ⟨rfl, by repeat (first | exact Below.refl _ _ | apply below_alloc)⟩
  · have e0 : keptG a b c k = wrap64 (wrap64 (2 * b) + 1) := if_neg (fun h => h1 h.1)
    rw [e0]
    clear e0
    go_enter Try.func20, Try.ntmps20
    go_wp2
    go_ret
    exact ⟨rfl, by repeat (first | exact Below.refl _ _ | apply below_alloc)⟩
end Go.Proofs.Ytcmbpboeilojmaa.Sw
