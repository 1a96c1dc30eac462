/- The slots of homes, and what Holds asks: the plain part (wip/pure/ScD.part). -/
import Derived.Test.YtcmbpboeilojmaaGreatSc
open Go.Proofs.YtcmbpboeilojmaaGreat.F
namespace Go.Proofs.YtcmbpboeilojmaaGreat
set_option linter.unusedVariables false
set_option linter.unusedSimpArgs false

/-! ### slots -/
namespace Scan
def slotsOf (h : List S48) : List Int := (h.filter (fun x => decide (0 ≤ x.f1))).map (·.f1)
theorem ho_lt {h : List S48} {i : Nat} (hi : i < h.length) : ho h i = h[i] := by
  unfold ho
  rw [List.getD_eq_getElem?_getD, List.getElem?_eq_getElem hi]; rfl
theorem sp_lt {l : List S36} {i : Nat} (hi : i < l.length) : sp l i = l[i] := by
  unfold sp
  rw [List.getD_eq_getElem?_getD, List.getElem?_eq_getElem hi]; rfl
theorem take_succ_ho {h : List S48} {i : Nat} (hi : i < h.length) : h.take (i + 1) = h.take i ++ [ho h i] := by
  rw [List.take_add_one, List.getElem?_eq_getElem hi, ho_lt hi]; rfl
theorem slotsOf_succ {h : List S48} {i : Nat} (hi : i < h.length) : slotsOf (h.take (i + 1)) = slotsOf (h.take i) ++ if 0 ≤ (ho h i).f1 then [(ho h i).f1] else [] := by
  rw [take_succ_ho hi]
  unfold slotsOf
  rw [List.filter_append, List.map_append]
  congr 1
  by_cases e : 0 ≤ (ho h i).f1
  · rw [if_pos e, List.filter_cons_of_pos (by simpa using e)]; rfl
  · rw [if_neg e, List.filter_cons_of_neg (by simpa using e)]; rfl
theorem all_ho (h : List S48) : h = (List.range h.length).map (ho h) := by
  apply List.ext_getElem
  · simp
  · intro i h1 h2
    rw [List.getElem_map, List.getElem_range, ho_lt h1]
theorem slotsOf_len (h : List S48) : (slotsOf h).length = (List.range h.length).countP (fun j => decide (0 ≤ (ho h j).f1)) := by
  unfold slotsOf
  rw [List.length_map, ← List.countP_eq_length_filter]
  conv => lhs; rw [all_ho h]
  rw [List.countP_map]; rfl
theorem mem_slotsOf {h : List S48} {x : Int} : x ∈ slotsOf h ↔ ∃ j, j < h.length ∧ (ho h j).f1 = x ∧ 0 ≤ x := by
  unfold slotsOf
  rw [List.mem_map]
  constructor
  · rintro ⟨y, hy, rfl⟩
    obtain ⟨hm, hp⟩ := List.mem_filter.1 hy
    obtain ⟨j, hj, e⟩ := List.getElem_of_mem hm
    exact ⟨j, hj, by rw [ho_lt hj, e], by simpa using hp⟩
  · rintro ⟨j, hj, e, hp⟩
    exact ⟨ho h j, List.mem_filter.2 ⟨by rw [ho_lt hj]; exact List.getElem_mem hj, by rw [e]; simpa using hp⟩, e⟩
theorem slotsOf_nodup {h : List S48} (hd : ∀ j k, j < k → k < h.length → 0 ≤ (ho h j).f1 → (ho h j).f1 ≠ (ho h k).f1) : (slotsOf h).Nodup := by
  have key : ∀ i, i ≤ h.length → (slotsOf (h.take i)).Nodup := by
    intro i
    induction i with
    | zero => intro _; simp [slotsOf]
    | succ i ih =>
      intro hi
      rw [slotsOf_succ (by omega)]
      by_cases e : 0 ≤ (ho h i).f1
      · rw [if_pos e, List.nodup_append]
        refine ⟨ih (by omega), by simp, fun x hx y hy => ?_⟩
        rw [List.mem_singleton] at hy
        subst hy
        obtain ⟨j, hj, e1, hp⟩ := mem_slotsOf.1 hx
        rw [List.length_take] at hj
        have e2 : ho (h.take i) j = ho h j := by rw [ho_lt (by rw [List.length_take]; omega), ho_lt (by omega), List.getElem_take]
        rw [e2] at e1
        have := hd j i (by omega) (by omega) (by omega)
        omega
      · rw [if_neg e, List.append_nil]; exact ih (by omega)
  have := key h.length (Nat.le_refl _)
  rwa [List.take_length] at this
theorem Facts.slots {l : List S36} {regs : Int} {h : List S48} {n : Nat} (F : Facts l regs h n) : (slotsOf h).Nodup ∧ (slotsOf h).length = n ∧ ∀ x ∈ slotsOf h, 0 ≤ x ∧ x < (n : Int) := by
  refine ⟨slotsOf_nodup (fun j k h1 h2 h3 => F.sd j k h1 (by rw [← F.hl]; exact h2) h3), by rw [slotsOf_len, F.hl, F.sn], fun x hx => ?_⟩
  obtain ⟨j, hj, e, hp⟩ := mem_slotsOf.1 hx
  have := F.sl j (by rw [← F.hl]; exact hj) (by omega)
  omega
/-- what holds holds as the document says it: what is asked of homes. -/
structure HoldsP (l : List S36) (h : List S48) (regs : Int) : Prop where
  hl : h.length = l.length
  ok : ∀ i, i < l.length → Home (sp l i) (ho h i) regs
  pr : ∀ i, i < l.length → PairsS l h i
  sl : (slotsOf h).Nodup ∧ ∀ x ∈ slotsOf h, 0 ≤ x ∧ x < ((slotsOf h).length : Int)
theorem Facts.holds {l : List S36} {regs : Int} {h : List S48} {n : Nat} (F : Facts l regs h n) (hO : Ord l) : HoldsP l h regs := by
  obtain ⟨s1, s2, s3⟩ := F.slots
  refine ⟨F.hl, F.ok, fun i hi hp j hj => ?_, s1, fun x hx => by rw [s2]; exact s3 x hx⟩
  obtain ⟨h1, h2, _⟩ := lastOf_some hj
  exact F.apart j i h1 hi (by omega) h2
theorem HoldsP.more {l : List S36} {h : List S48} {r r' : Int} (H : HoldsP l h r) (hr : r ≤ r') : HoldsP l h r' :=
  ⟨H.hl, fun i hi => (H.ok i hi).more hr, H.pr, H.sl⟩
theorem HoldsP.same {l m : List S36} {h : List S48} {r : Int} (H : HoldsP l h r) (hs : Same l m) : HoldsP m h r :=
  ⟨H.hl.trans hs.1, fun i hi => (H.ok i (by rw [hs.1]; exact hi)).same (hs.2 i).1 (hs.2 i).2, fun i hi hp j hj => by rw [← (hs.2 i).1]; exact H.pr i (by rw [hs.1]; exact hi) hp j hj, H.sl⟩
theorem Same.symm {l m : List S36} (h : Same l m) : Same m l := ⟨h.1.symm, fun i => ⟨(h.2 i).1.symm, (h.2 i).2.symm⟩⟩
end Scan
end Go.Proofs.YtcmbpboeilojmaaGreat
