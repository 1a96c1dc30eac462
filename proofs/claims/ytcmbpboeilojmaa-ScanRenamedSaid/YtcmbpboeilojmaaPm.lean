/- What ScanApart and ScanRenamed share: the program is awake; what Assign and Holds answer of made spans. -/
import Derived.Test.YtcmbpboeilojmaaFxf7
import Derived.Test.YtcmbpboeilojmaaMk
namespace Go.Proofs.Ytcmbpboeilojmaa.Sw
open Go Go.RowKit Go.Proofs.YtcmbpboeilojmaaW.PrintWords Go.Proofs.YtcmbpboeilojmaaW.PrintLast Go.Proofs.YtcmbpboeilojmaaW.PrintMore Go.Proofs.Ytcmbpboeilojmaa.Mi Go.Proofs.Ytcmbpboeilojmaa.F Go.Proofs.Ytcmbpboeilojmaa.Scan
set_option linter.unusedVariables false
set_option linter.unusedSimpArgs false
theorem awake_t : ∃ k, smithylaw25_awake.f k = some true := ⟨40, by kernel_rfl⟩
section
variable {l : List S40} {a r : Int} {h : List S43} {n : Nat}
theorem made_wf (M : Made l a) : wfS l := by
  intro x hx
  obtain ⟨i, hi, rfl⟩ := List.getElem_of_mem hx
  have h1 := M.nm i hi
  rw [sp_lt hi] at h1
  have := M.ln
  show (Lit.int .i64 l[i].f0).wf = true
  rw [h1]
  exact WalkArith.wf_i64 ⟨by omega, by omega⟩
theorem made_ordB (M : Made l a) : ordB l = true := M.ord (m := l) (f := fun i => (i : Int)) ⟨rfl, fun _ => ⟨rfl, rfl⟩⟩ (fun i hi => M.nm i hi) (fun i _ => by omega) (fun i j h _ => by omega)
theorem assign_ok {l : List S40} {r : Int} (hl : l.length ≤ 1000000) (hw : wfS l) (ho : ordB l = true) (h0 : 0 ≤ r) (h1 : r ≤ 64) : scan_Assign.f l r = some ((assignP l r).h, ((assignP l r).n : Int), 0) := by
  unfold scan_Assign.f assignF assignG
  rw [if_pos ⟨hl, hw⟩, if_neg]
  rintro (h | h | h)
  · omega
  · omega
  · rw [ho] at h; cases h
/-- homes that hold have cuts that are numbers. -/
theorem facts_wf (F : Facts l r h n) (M : Made l a) : ∀ x ∈ h, wf x.f2 := by
  intro x hx
  obtain ⟨i, hi, rfl⟩ := List.getElem_of_mem hx
  have hl := F.hl
  have hil : i < l.length := by omega
  obtain ⟨h1, h2, h3, h4, h5⟩ := F.ok i hil
  have hM := M.lo i hil
  have hA := M.hi
  have hL := M.ln
  rw [ho_lt hi] at h1 h2 h3 h4 h5
  refine WalkArith.wf_i64 ?_
  by_cases e : h[i].f1 = -1
  · have := (h4 e).2; omega
  · have h6 := h5 e
    by_cases e2 : h[i].f0 = -1
    · have := h6.1 e2; omega
    · have := h6.2 e2; omega
theorem holds_ok {m : List S40} {r' : Int} (F : Facts l r h n) (M : Made l a) (hs : Same l m) (hm : ordB m = true) (hwm : wfS m) (h0 : 0 ≤ r) (hr : r ≤ r') (h1 : r' ≤ 64) : scan_Holds.f m h r' = some true := by
  unfold scan_Holds.f holdsF
  rw [if_pos ⟨by rw [← hs.1]; have := M.ln; omega, hwm⟩]
  congr 1
  rw [holdsB_iff (facts_wf F M)]
  exact ⟨⟨by omega, h1, hm⟩, ((F.holds (ordB_ord (made_ordB M))).more hr).same hs⟩
end
end Go.Proofs.Ytcmbpboeilojmaa.Sw
