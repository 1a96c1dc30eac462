/- The kit's mark of a home. -/
import Derived.Test.YtcmbpboeilojmaaGreatOe
import Derived.Test.YtcmbpboeilojmaaGreatFxf90
import Derived.Test.YtcmbpboeilojmaaGreatFxe48
namespace Go.Proofs.YtcmbpboeilojmaaGreat.Sw
open Go Go.RowKit Go.Proofs.YtcmbpboeilojmaaGreatW.PrintWords Go.Proofs.YtcmbpboeilojmaaGreatW.PrintLast Go.Proofs.YtcmbpboeilojmaaGreatW.PrintMore Go.Proofs.YtcmbpboeilojmaaGreat.Mi Go.Proofs.YtcmbpboeilojmaaGreat.F
set_option linter.unusedVariables false
set_option linter.unusedSimpArgs false
/-- the mark of place i of list k. -/
def mkI (k i : Int) : Int := 1000003 * (k + 7) + i
theorem mark_f (k i : Int) (h0 : 0 ≤ k) (h1 : k ≤ 1000) (h2 : 0 ≤ i) (h3 : i ≤ 281474976710656) : smithykit_mark.f k i = some (mkI k i) := by
  unfold smithykit_mark.f mkI
  rw [wrap64_small (n := k + 7) (by omega) (by omega), wrap64_small (n := 1000003 * (k + 7)) (by omega) (by omega), wrap64_small (by omega) (by omega)]
theorem mark_home (k i : Int) (w : World) (h0 : 0 ≤ k) (h1 : k ≤ 1000) (h2 : 0 ≤ i) (h3 : i ≤ 281474976710656) : Calls Tryz.prog 90 #[.int .i64 k, .int .i64 i] w fun e w' => e = .returned (.agg #[.int .i64 0, .int .i64 0, .int .i64 (mkI k i)]) ∧ Below w.heap.size w w' := by
  refine smithykit_markHome.calls k i 0 0 (mkI k i) w ?_
  unfold smithykit_markHome.f
  rw [mark_f k i h0 h1 h2 h3]
  rfl
end Go.Proofs.YtcmbpboeilojmaaGreat.Sw
