/- The program is awake: it finds homes, in registers and in slots (the law's own closed look). -/
import Derived.Test.YtcmbpboeilojmaaGreatFxf4
import Derived.Test.YtcmbpboeilojmaaGreatHd
namespace Go.Proofs.YtcmbpboeilojmaaGreat.Sw
open Go Go.RowKit Go.Proofs.YtcmbpboeilojmaaGreatW.PrintWords Go.Proofs.YtcmbpboeilojmaaGreat.F
theorem awake_t : ∃ k, smithylaw25_awake.f k = some true := ⟨40, by kernel_rfl⟩
/-- a slice's head is a slice. -/
theorem C_head {α : Type} {k : Kd α} {w : World} {A : Option Addr} {xs ys : List α} {n : Nat} (h : k.C w A n (xs ++ ys)) (hn : n = xs.length + ys.length) : k.C w A xs.length xs := by
  subst hn
  have h' : k.C w A (xs ++ ys).length (xs ++ ys) := by rw [List.length_append]; exact h
  have := Kd.C_take h' (m := xs.length) (by rw [List.length_append]; omega)
  rwa [List.take_left'] at this
  rfl
end Go.Proofs.YtcmbpboeilojmaaGreat.Sw
