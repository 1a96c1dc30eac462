/- A home of one of the three sorts: scan's one and the document's home say the same. -/
import Derived.Test.YtcmbpboeilojmaaGreatOe
import Derived.Test.YtcmbpboeilojmaaGreatFxf22
import Derived.Test.YtcmbpboeilojmaaGreatFxf20
namespace Go.Proofs.YtcmbpboeilojmaaGreat.Sw
open Go Go.RowKit Go.Proofs.YtcmbpboeilojmaaGreatW.PrintWords Go.Proofs.YtcmbpboeilojmaaGreatW.PrintLast Go.Proofs.YtcmbpboeilojmaaGreatW.PrintMore Go.Proofs.YtcmbpboeilojmaaGreat.Mi Go.Proofs.YtcmbpboeilojmaaGreat.F Go.Proofs.YtcmbpboeilojmaaGreat.Scan
set_option linter.unusedVariables false
set_option linter.unusedSimpArgs false
def oneB (s : S36) (x : S48) (regs : Int) : Bool :=
  if x.f0 < -1 ∨ regs ≤ x.f0 ∨ x.f1 < -1 then false
  else if x.f1 < 0 then (if 0 ≤ x.f0 then (if s.f2 < x.f2 then wrap64 (x.f2 - 1) == s.f2 else false) else false)
  else if x.f0 < 0 then x.f2 == s.f1 else if s.f1 < x.f2 then decide (x.f2 ≤ s.f2) else false
theorem one_f (s : S36) (x : S48) (regs : Int) (k : Nat) : scan_one.f (k + 1) s.f0 s.f1 s.f2 x.f0 x.f1 x.f2 regs = some (oneB s x regs) := by
  unfold scan_one.f scan_one.j0 oneB
  by_cases h1 : x.f0 < -1
  · simp [h1]
  · by_cases h2 : x.f0 ≥ regs
    · simp [h1, h2]
    · by_cases h3 : x.f1 < -1
      · simp [h1, h2, h3]
      · have h2' : ¬ regs ≤ x.f0 := h2
        simp only [h1, h2, h2', h3, if_false, decide_false, Bool.false_eq_true, or_self]
        (repeat' split) <;> first | rfl | omega
theorem home_f (s : S36) (x : S48) (regs : Int) (k : Nat) : smithyref25_home.f (k + 1) s.f0 s.f1 s.f2 x.f0 x.f1 x.f2 regs = some (oneB s x regs) := by
  unfold smithyref25_home.f smithyref25_home.j0 oneB
  by_cases h1 : x.f0 < -1
  · simp [h1]
  · by_cases h2 : x.f0 ≥ regs
    · simp [h1, h2]
    · by_cases h3 : x.f1 < -1
      · simp [h1, h2, h3]
      · have h2' : ¬ regs ≤ x.f0 := h2
        simp only [h1, h2, h2', h3, if_false, decide_false, Bool.false_eq_true, or_self]
        (repeat' split) <;> first | rfl | omega
theorem wf_le {x : Int} (h : wf x) : -9223372036854775808 ≤ x ∧ x ≤ 9223372036854775807 := by
  have h' : (decide ((-9223372036854775808 : Int) ≤ x) && decide (x ≤ 9223372036854775807)) = true := h
  simpa using h'
theorem oneB_iff {s : S36} {x : S48} {regs : Int} (h1 : -1 ≤ s.f1) (h2 : s.f1 ≤ s.f2) (hx : wf x.f2) : oneB s x regs = true ↔ Home s x regs := by
  have hx1 : -9223372036854775808 ≤ x.f2 ∧ x.f2 ≤ 9223372036854775807 := by
    exact wf_le hx
  unfold oneB Home
  by_cases c1 : x.f0 < -1 ∨ regs ≤ x.f0 ∨ x.f1 < -1
  · rw [if_pos c1]
    constructor
    · intro h; cases h
    · rintro ⟨a, b, c, _⟩; omega
  · rw [if_neg c1]
    by_cases c2 : x.f1 < 0
    · rw [if_pos c2]
      by_cases c3 : 0 ≤ x.f0
      · rw [if_pos c3]
        by_cases c4 : s.f2 < x.f2
        · rw [if_pos c4, wrap64_small (by omega) (by omega), beq_iff_eq]
          constructor
          · intro h; exact ⟨by omega, by omega, by omega, fun _ => ⟨c3, by omega⟩, fun h => by omega⟩
          · rintro ⟨_, _, _, h, _⟩
            have := (h (by omega)).2
            omega
        · rw [if_neg c4]
          constructor
          · intro h; cases h
          · rintro ⟨_, _, _, h, _⟩
            have := (h (by omega)).2
            omega
      · rw [if_neg c3]
        constructor
        · intro h; cases h
        · rintro ⟨_, _, _, h, _⟩
          have := (h (by omega)).1
          omega
    · rw [if_neg c2]
      by_cases c3 : x.f0 < 0
      · rw [if_pos c3, beq_iff_eq]
        constructor
        · intro h; exact ⟨by omega, by omega, by omega, fun h => by omega, fun _ => ⟨fun _ => h, fun h => by omega⟩⟩
        · rintro ⟨_, _, _, _, h⟩
          exact (h (by omega)).1 (by omega)
      · rw [if_neg c3]
        by_cases c4 : s.f1 < x.f2
        · rw [if_pos c4, decide_eq_true_eq]
          constructor
          · intro h; exact ⟨by omega, by omega, by omega, fun h => by omega, fun _ => ⟨fun h => by omega, fun _ => ⟨c4, h⟩⟩⟩
          · rintro ⟨_, _, _, _, h⟩
            exact ((h (by omega)).2 (by omega)).2
        · rw [if_neg c4]
          constructor
          · intro h; cases h
          · rintro ⟨_, _, _, _, h⟩
            have := ((h (by omega)).2 (by omega)).1
            omega
end Go.Proofs.YtcmbpboeilojmaaGreat.Sw
