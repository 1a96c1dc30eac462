/- scan.ordered told as a proposition. -/
import Derived.Test.YtcmbpboeilojmaaGreatOr
import Derived.Test.YtcmbpboeilojmaaGreatSd
namespace Go.Proofs.YtcmbpboeilojmaaGreat.Sw
open Go Go.RowKit Go.Proofs.YtcmbpboeilojmaaGreatW.PrintWords Go.Proofs.YtcmbpboeilojmaaGreatW.PrintLast Go.Proofs.YtcmbpboeilojmaaGreatW.PrintMore Go.Proofs.YtcmbpboeilojmaaGreat.Mi Go.Proofs.YtcmbpboeilojmaaGreat.F Go.Proofs.YtcmbpboeilojmaaGreat.Scan
set_option linter.unusedVariables false
set_option linter.unusedSimpArgs false
instance (l : List S36) : Decidable (wfS l) := by unfold wfS wf; exact inferInstance
theorem rd_sp (l : List S36) (k : Nat) : rd_T36 l (k : Int) = sp l k := by unfold rd_T36 sp; rw [Int.toNat_natCast]; rfl
structure OrdAt (l : List S36) (k : Nat) : Prop where
  a : -1 ≤ (sp l k).f1
  b : (sp l k).f1 ≤ (sp l k).f2
  c : (sp l k).f2 ≤ 1099511627776
  d : 0 ≤ (sp l k).f0
  e : 0 < k → lexLt (sp l (k - 1)) (sp l k)
  f : ∀ j, j < k → (sp l j).f0 ≠ (sp l k).f0
theorem ordB_iff (l : List S36) : ordB l = true ↔ ∀ k, k < l.length → OrdAt l k := by
  unfold ordB
  rw [List.all_eq_true]
  have key : ∀ k, k < l.length → ((!badA l k && !badB l k) = true ↔ OrdAt l k) := by
    intro k hk
    have hm : (mget (seen (l.take k)) (sp l k).f0 > 0) ↔ ∃ j, j < k ∧ (sp l j).f0 = (sp l k).f0 := by
      rw [seen_get]
      constructor
      · intro h
        by_cases e : ∃ m ∈ l.take k, m.f0 = (sp l k).f0
        · obtain ⟨m, hm, e⟩ := e
          obtain ⟨j, hj, e'⟩ := List.getElem_of_mem hm
          rw [List.length_take] at hj
          rw [List.getElem_take] at e'
          exact ⟨j, by omega, by rw [sp_lt (by omega), e']; exact e⟩
        · rw [if_neg e] at h; exact absurd h (by decide)
      · rintro ⟨j, hj, e⟩
        rw [if_pos ⟨sp l j, by rw [sp_lt (by omega)]; exact List.mem_take_iff_getElem.2 ⟨j, by omega, rfl⟩, e⟩]; decide
    have hp : 0 < k → rd_T36 l ((k : Int) - 1) = sp l (k - 1) := fun h => by rw [show (k : Int) - 1 = ((k - 1 : Nat) : Int) by omega, rd_sp]
    unfold badA badB
    simp only [rd_sp, Bool.and_eq_true, Bool.not_eq_true', Bool.or_eq_false_iff, decide_eq_false_iff_not, Bool.and_eq_false_iff, decide_eq_true_eq, hm]
    constructor
    · rintro ⟨⟨h1, h2, h3, h4, h5⟩, h6⟩
      refine ⟨by omega, by omega, by omega, by omega, fun h => ?_, fun j hj e => h5 ⟨j, hj, e⟩⟩
      rcases h6 with h6 | h6
      · exact absurd h h6
      · rw [hp h] at h6
        exact Classical.byContradiction fun hn => h6 hn
    · rintro ⟨h1, h2, h3, h4, h5, h6⟩
      refine ⟨⟨by omega, by omega, by omega, by omega, ?_⟩, ?_⟩
      · rintro ⟨j, hj, e⟩; exact h6 j hj e
      · by_cases h : 0 < k
        · refine .inr ?_
          rw [hp h]
          exact fun hn => hn (h5 h)
        · exact .inl h
  constructor
  · intro h k hk
    exact (key k hk).1 (h k (List.mem_range.2 hk))
  · intro h k hk
    exact (key k (List.mem_range.1 hk)).2 (h k (List.mem_range.1 hk))
theorem ordB_ord {l : List S36} (h : ordB l = true) : Ord l := by
  have hk := (ordB_iff l).1 h
  refine ⟨fun i hi => ⟨(hk i hi).a, (hk i hi).b, (hk i hi).c⟩, fun i j hij hj => ?_⟩
  induction j with
  | zero => obtain rfl : i = 0 := by omega
            exact Int.le_refl _
  | succ j ih =>
    by_cases e : i = j + 1
    · subst e; exact Int.le_refl _
    · have h1 := ih (by omega) (by omega)
      have h2 := (hk (j + 1) hj).e (by omega)
      rw [show j + 1 - 1 = j by omega] at h2
      unfold lexLt at h2
      omega
end Go.Proofs.YtcmbpboeilojmaaGreat.Sw
