/- What the document's Slots and Most answer; what Assign's homes are, for any spans in order. -/
import Derived.Test.YtcmbpboeilojmaaRx
import Derived.Test.YtcmbpboeilojmaaPw
import Derived.Test.YtcmbpboeilojmaaFxf13
import Derived.Test.YtcmbpboeilojmaaFxf14
namespace Go.Proofs.Ytcmbpboeilojmaa.Sw
open Go Go.RowKit Go.Proofs.YtcmbpboeilojmaaW.PrintWords Go.Proofs.YtcmbpboeilojmaaW.PrintLast Go.Proofs.YtcmbpboeilojmaaW.PrintMore Go.Proofs.Ytcmbpboeilojmaa.Mi Go.Proofs.Ytcmbpboeilojmaa.F Go.Proofs.Ytcmbpboeilojmaa.Scan
set_option linter.unusedVariables false
set_option linter.unusedSimpArgs false
section
variable {h : List S43}
theorem slots_l0 (hl : h.length ≤ 1000000) : ∀ (m i : Nat), h.length - i ≤ m → i ≤ h.length → ∃ k, smithyref25_Slots.l0 k h ((slotsOf (h.take i)).length : Int) i = some ((slotsOf h).length : Int) := by
  have fin : ∃ k, smithyref25_Slots.l0 k h ((slotsOf (h.take h.length)).length : Int) (h.length : Int) = some ((slotsOf h).length : Int) := by
    refine ⟨1, ?_⟩
    rw [List.take_length, smithyref25_Slots.l0, if_neg (by omega)]
  intro m
  induction m with
  | zero =>
    intro i h1 h2
    obtain rfl : i = h.length := by omega
    exact fin
  | succ m ih =>
    intro i h1 h2
    by_cases c : i < h.length
    · obtain ⟨k, hk⟩ := ih (i + 1) (by omega) (by omega)
      have hs := slots_len h i
      refine ⟨k + 1, ?_⟩
      rw [smithyref25_Slots.l0, if_pos (by omega), if_pos (by omega), rd_ho', wsucc i (by omega)]
      rw [slotsOf_succ c] at hk
      by_cases s0 : (ho h i).f1 ≥ 0
      · rw [if_pos s0, List.length_append] at hk
        rw [if_pos s0, wsucc _ (by omega)]
        exact hk
      · rw [if_neg s0, List.append_nil] at hk
        rw [if_neg s0]
        exact hk
    · obtain rfl : i = h.length := by omega
      exact fin
theorem slots_f (hl : h.length ≤ 1000000) : ∃ k, smithyref25_Slots.f k h = some ((slotsOf h).length : Int) := slots_l0 hl h.length 0 (by omega) (by omega)
end
def liveR (l : List S40) (c : Int) (j : Nat) : Nat := (List.range j).countP (fun q => decide ((sp l q).f1 ≤ c ∧ c ≤ (sp l q).f2))
theorem liveR_succ (l : List S40) (c : Int) (j : Nat) : liveR l c (j + 1) = liveR l c j + if (sp l j).f1 ≤ c ∧ c ≤ (sp l j).f2 then 1 else 0 := by
  unfold liveR
  rw [List.range_succ, List.countP_append, List.countP_singleton]
  congr 1
  by_cases e : (sp l j).f1 ≤ c ∧ c ≤ (sp l j).f2
  · rw [if_pos e, if_pos (by simpa using e)]
  · rw [if_neg e, if_neg (by simpa using e)]
theorem liveR_le (l : List S40) (c : Int) (j : Nat) : liveR l c j ≤ j := by
  have := List.countP_le_length (p := fun q => decide ((sp l q).f1 ≤ c ∧ c ≤ (sp l q).f2)) (l := List.range j)
  rwa [List.length_range] at this
theorem live_range (l : List S40) (c : Int) : live l c = liveR l c l.length := by
  unfold live liveR
  have : l = (List.range l.length).map (sp l) := by
    apply List.ext_getElem
    · simp
    · intro i h1 h2
      rw [List.getElem_map, List.getElem_range, sp_lt h1]
  conv => lhs; rw [this]
  rw [List.countP_map]; rfl
section
variable {l : List S40}
def MostP (l : List S40) (i : Nat) (x3 r : Int) : Prop := x3 ≤ r ∧ ∀ q, i ≤ q → q < l.length → (live l (sp l q).f1 : Int) ≤ r
theorem most_l1 (hl : l.length ≤ 1000000) {i : Nat} (hi : i < l.length) {x3 : Int} (next : ∀ y : Int, 0 ≤ y → y ≤ 1000000 → ∃ k r, smithyref25_Most.l0 k l y (wrap64 ((i : Int) + 1)) = some r ∧ MostP l (i + 1) y r) (h3 : 0 ≤ x3 ∧ x3 ≤ 1000000) :
    ∀ (m j : Nat), l.length - j ≤ m → j ≤ l.length → ∃ k r, smithyref25_Most.l1 k l x3 i (liveR l (sp l i).f1 j) j = some r ∧ MostP l i x3 r := by
  have fin : ∃ k r, smithyref25_Most.l1 k l x3 i (liveR l (sp l i).f1 l.length) (l.length : Int) = some r ∧ MostP l i x3 r := by
    have hle := liveR_le l (sp l i).f1 l.length
    by_cases c : ((liveR l (sp l i).f1 l.length : Nat) : Int) > x3
    · obtain ⟨k, r, hk, h4, h5⟩ := next ((liveR l (sp l i).f1 l.length : Nat) : Int) (by omega) (by omega)
      refine ⟨k + 1, r, ?_, by omega, fun q h6 h7 => ?_⟩
      · rw [smithyref25_Most.l1, if_neg (by omega), if_pos c]
        exact hk
      · by_cases e : q = i
        · subst e; rw [live_range]; exact h4
        · exact h5 q (by omega) h7
    · obtain ⟨k, r, hk, h4, h5⟩ := next x3 h3.1 h3.2
      refine ⟨k + 1, r, ?_, h4, fun q h6 h7 => ?_⟩
      · rw [smithyref25_Most.l1, if_neg (by omega), if_neg c]
        exact hk
      · by_cases e : q = i
        · subst e; rw [live_range]; omega
        · exact h5 q (by omega) h7
  intro m
  induction m with
  | zero =>
    intro j h1 h2
    obtain rfl : j = l.length := by omega
    exact fin
  | succ m ih =>
    intro j h1 h2
    by_cases c : j < l.length
    · obtain ⟨k, r, hk, hr⟩ := ih (j + 1) (by omega) (by omega)
      have hle := liveR_le l (sp l i).f1 j
      refine ⟨k + 1, r, ?_, hr⟩
      rw [smithyref25_Most.l1, if_pos (by omega), if_pos (by omega), if_pos (by omega), if_pos (by omega), rd_sp, rd_sp, wsucc j (by omega)]
      rw [liveR_succ] at hk
      by_cases c1 : (sp l j).f1 ≤ (sp l i).f1
      · by_cases c2 : (sp l i).f1 ≤ (sp l j).f2
        · rw [if_pos ⟨c1, c2⟩] at hk
          rw [if_pos c1, if_pos c2, wsucc _ (by omega)]
          exact hk
        · rw [if_neg (fun h => c2 h.2), Nat.add_zero] at hk
          rw [if_pos c1, if_neg c2]
          exact hk
      · rw [if_neg (fun h => c1 h.1), Nat.add_zero] at hk
        rw [if_neg c1]
        exact hk
    · obtain rfl : j = l.length := by omega
      exact fin
theorem most_l0 (hl : l.length ≤ 1000000) : ∀ (m i : Nat) (x3 : Int), l.length - i ≤ m → i ≤ l.length → 0 ≤ x3 → x3 ≤ 1000000 → ∃ k r, smithyref25_Most.l0 k l x3 i = some r ∧ MostP l i x3 r := by
  have fin : ∀ x3 : Int, ∃ k r, smithyref25_Most.l0 k l x3 (l.length : Int) = some r ∧ MostP l l.length x3 r := by
    intro x3
    refine ⟨1, x3, ?_, Int.le_refl _, fun q h1 h2 => absurd h2 (by omega)⟩
    rw [smithyref25_Most.l0, if_neg (by omega)]
  intro m
  induction m with
  | zero =>
    intro i x3 h1 h2 _ _
    obtain rfl : i = l.length := by omega
    exact fin x3
  | succ m ih =>
    intro i x3 h1 h2 h3 h4
    by_cases c : i < l.length
    · obtain ⟨k, r, hk, hr⟩ := most_l1 hl c (x3 := x3) (fun y h5 h6 => by rw [wsucc i (by omega)]; exact ih (i + 1) y (by omega) (by omega) h5 h6) ⟨h3, h4⟩ l.length 0 (by omega) (by omega)
      refine ⟨k + 1, r, ?_, hr⟩
      rw [smithyref25_Most.l0, if_pos (by omega)]
      exact hk
    · obtain rfl : i = l.length := by omega
      exact fin x3
theorem most_f (hl : l.length ≤ 1000000) : ∃ k r, smithyref25_Most.f k l = some r ∧ ∀ q, q < l.length → (live l (sp l q).f1 : Int) ≤ r := by
  obtain ⟨k, r, hk, _, hr⟩ := most_l0 hl l.length 0 0 (by omega) (by omega) (by omega) (by omega)
  exact ⟨k, r, hk, fun q hq => hr q (Nat.zero_le _) hq⟩
theorem facts_wf' {regs : Int} {h : List S43} {n : Nat} (F : Facts l regs h n) (hO : Ord l) : ∀ x ∈ h, wf x.f2 := by
  intro x hx
  obtain ⟨i, hi, rfl⟩ := List.getElem_of_mem hx
  have hl := F.hl
  have hil : i < l.length := by omega
  obtain ⟨h1, h2, h3, h4, h5⟩ := F.ok i hil
  have hM := hO.low i hil
  rw [ho_lt hi] at h1 h2 h3 h4 h5
  refine WalkArith.wf_i64 ?_
  by_cases e : h[i].f1 = -1
  · have := (h4 e).2; omega
  · have h6 := h5 e
    by_cases e2 : h[i].f0 = -1
    · have := h6.1 e2; omega
    · have := h6.2 e2; omega
end
end Go.Proofs.Ytcmbpboeilojmaa.Sw
