/- ScanRenamed's plain law. -/
import Derived.Test.YtcmbpboeilojmaaFxf6
import Derived.Test.YtcmbpboeilojmaaPm
namespace Go.Proofs.Ytcmbpboeilojmaa.Sw
open Go Go.RowKit Go.Proofs.YtcmbpboeilojmaaW.PrintWords Go.Proofs.YtcmbpboeilojmaaW.PrintLast Go.Proofs.YtcmbpboeilojmaaW.PrintMore Go.Proofs.Ytcmbpboeilojmaa.Mi Go.Proofs.Ytcmbpboeilojmaa.F Go.Proofs.Ytcmbpboeilojmaa.Scan
set_option linter.unusedVariables false
set_option linter.unusedSimpArgs false
def rn (l : List S40) (p : Int) (i : Nat) : S40 := ⟨(sp l i).f0 * 2 + p, (sp l i).f1, (sp l i).f2⟩
def ren (l : List S40) (p : Int) (i : Nat) : List S40 := (List.range l.length).map (fun j => if j < i then rn l p j else sp l j)
theorem ren_len (l : List S40) (p : Int) (i : Nat) : (ren l p i).length = l.length := by simp [ren]
theorem ren_get (l : List S40) (p : Int) (i : Nat) {j : Nat} (hj : j < l.length) : sp (ren l p i) j = if j < i then rn l p j else sp l j := by
  rw [sp_lt (by rw [ren_len]; exact hj)]
  simp [ren]
theorem ren_zero (l : List S40) (p : Int) : ren l p 0 = l := by
  apply List.ext_getElem
  · rw [ren_len]
  · intro j h1 h2
    simp [ren, sp_lt h2]
theorem ren_set (l : List S40) (p : Int) {i : Nat} (hi : i < l.length) : (ren l p i).set i (rn l p i) = ren l p (i + 1) := by
  apply List.ext_getElem
  · rw [List.length_set, ren_len, ren_len]
  · intro j h1 h2
    rw [List.length_set, ren_len] at h1
    simp only [ren, List.getElem_set, List.getElem_map, List.getElem_range]
    by_cases e : i = j
    · subst e; rw [if_pos rfl, if_pos (by omega)]
    · rw [if_neg e]
      by_cases e2 : j < i
      · rw [if_pos e2, if_pos (by omega)]
      · rw [if_neg e2, if_neg (by omega)]
theorem ren_same (l : List S40) (p : Int) : Same l (ren l p l.length) := by
  refine ⟨(ren_len _ _ _).symm, fun j => ?_⟩
  by_cases hj : j < l.length
  · rw [ren_get l p _ hj, if_pos hj]; exact ⟨rfl, rfl⟩
  · have e1 : sp l j = ⟨0, 0, 0⟩ := by unfold sp; rw [List.getD_eq_getElem?_getD, List.getElem?_eq_none (by omega)]; rfl
    have e2 : sp (ren l p l.length) j = ⟨0, 0, 0⟩ := by unfold sp; rw [List.getD_eq_getElem?_getD, List.getElem?_eq_none (by rw [ren_len]; omega)]; rfl
    rw [e1, e2]; exact ⟨rfl, rfl⟩
section
variable {l : List S40} {a : Int}
theorem ren_ord (M : Made l a) {p : Int} (hp : 0 ≤ p ∧ p < 1000) : ordB (ren l p l.length) = true :=
  M.ord (ren_same l p) (f := fun i => (i : Int) * 2 + p) (fun i hi => by rw [ren_get l p _ hi, if_pos hi]; show (sp l i).f0 * 2 + p = _; rw [M.nm i hi]) (fun i _ => by omega) (fun i j h _ => by omega)
theorem ren_wf (M : Made l a) {p : Int} (hp : 0 ≤ p ∧ p < 1000) : wfS (ren l p l.length) := by
  intro x hx
  obtain ⟨i, hi, rfl⟩ := List.getElem_of_mem hx
  have hil : i < l.length := by rw [ren_len] at hi; exact hi
  have h1 := ren_get l p l.length hil
  rw [if_pos hil, sp_lt hi] at h1
  have h2 := M.nm i hil
  have := M.ln
  show (Lit.int .i64 _).wf = true
  rw [h1]
  exact WalkArith.wf_i64 ⟨by show _ ≤ (sp l i).f0 * 2 + p; omega, by show (sp l i).f0 * 2 + p ≤ _; omega⟩
theorem l1_r {h : List S43} {n : Nat} (F : Facts l 0 h n) (M : Made l a) : ∀ (m i : Nat), l.length - i ≤ m → i ≤ l.length → ∃ k, smithylaw25_ScanRenamed.l1 k l h i = some true := by
  have hL := M.ln
  have hhl := F.hl
  obtain ⟨_, hN⟩ := none_facts F
  have fin : ∃ k, smithylaw25_ScanRenamed.l1 k l h (l.length : Int) = some true := ⟨1, by unfold smithylaw25_ScanRenamed.l1; rw [if_neg (by omega)]⟩
  intro m
  induction m with
  | zero =>
    intro i h1 h2
    obtain rfl : i = l.length := by omega
    exact fin
  | succ m ih =>
    intro i h1 h2
    by_cases c1 : i < l.length
    · obtain ⟨k, hk⟩ := ih (i + 1) (by omega) (by omega)
      obtain ⟨n1, n2⟩ := hN i c1
      have e1 : rd_T43 h (i : Int) = ho h i := by unfold rd_T43 ho; rw [Int.toNat_natCast]; rfl
      have ew : wrap64 ((i : Int) + 1) = ((i + 1 : Nat) : Int) := by rw [wrap64_small (by omega) (by omega)]; omega
      refine ⟨k + 1, ?_⟩
      unfold smithylaw25_ScanRenamed.l1
      rw [if_pos (by omega), if_pos (by omega), e1, rd_sp, if_pos n1, if_pos (by omega), if_pos n2, ew]
      exact hk
    · obtain rfl : i = l.length := by omega
      exact fin
theorem l0_r (M : Made l a) (x1 x2 p r : Int) (hp : smithykit_Pick.f x1 1000 = some p) (hp1 : 0 ≤ p ∧ p < 1000) (hr : smithykit_Pick.f x2 8 = some r) (hr1 : 0 ≤ r ∧ r < 8) :
    ∀ (m i : Nat), l.length - i ≤ m → i ≤ l.length → ∃ k, smithylaw25_ScanRenamed.l0 k x1 x2 l (ren l p i) i = some true := by
  have hL := M.ln
  have hO := ordB_ord (made_ordB M)
  have F := assign_facts (regs := r) hO hr1.1 (by omega)
  have F0 := assign_facts (regs := 0) hO (Int.le_refl _) (by omega)
  have fin : ∃ k, smithylaw25_ScanRenamed.l0 k x1 x2 l (ren l p l.length) (l.length : Int) = some true := by
    obtain ⟨k, hk⟩ := l1_r F0 M l.length 0 (by omega) (by omega)
    have hsame := ren_same l p
    have e1 := assign_ok (r := r) (by omega : l.length ≤ 1000000) (made_wf M) (made_ordB M) hr1.1 (by omega)
    have e2 := assign_ok (r := r) (l := ren l p l.length) (by rw [ren_len]; omega) (ren_wf M hp1) (ren_ord M hp1) hr1.1 (by omega)
    have e3 := assign_ok (r := 0) (by omega : l.length ≤ 1000000) (made_wf M) (made_ordB M) (Int.le_refl _) (by omega)
    rw [← hsame.assign r] at e2
    have hid : Same l l := ⟨rfl, fun _ => ⟨rfl, rfl⟩⟩
    have n0 := (none_facts F0).1
    refine ⟨k + 2, ?_⟩
    unfold smithylaw25_ScanRenamed.l0
    rw [if_neg (by rw [ren_len]; omega), hr, Option.bind_some, e1, Option.bind_some, e2, Option.bind_some, e3, Option.bind_some, if_pos rfl, if_pos rfl, if_pos rfl,
      holds_ok F M hsame (ren_ord M hp1) (ren_wf M hp1) hr1.1 (Int.le_refl _) (by omega), Option.bind_some, if_pos rfl,
      holds_ok F M hid (made_ordB M) (made_wf M) hr1.1 (Int.le_refl _) (by omega), Option.bind_some, if_pos rfl,
      wrap64_small (n := r + 5) (by omega) (by omega), holds_ok F M hid (made_ordB M) (made_wf M) hr1.1 (by omega) (by omega), Option.bind_some, if_pos rfl, if_neg (by show ¬ ((assignP l r).n : Int) < 0; omega), if_neg (by show ¬ ((assignP l r).n : Int) < 0; omega)]
    show smithylaw25_ScanRenamed.j1 (k + 1) l (assignP l 0).h (((assignP l 0).n : Int) != (l.length : Int)) = some true
    rw [smithylaw25_ScanRenamed.j1, if_neg (by rw [n0]; simp)]
    exact hk
  intro m
  induction m with
  | zero =>
    intro i h1 h2
    obtain rfl : i = l.length := by omega
    exact fin
  | succ m ih =>
    intro i h1 h2
    by_cases c1 : i < l.length
    · obtain ⟨k, hk⟩ := ih (i + 1) (by omega) (by omega)
      have ew : wrap64 ((i : Int) + 1) = ((i + 1 : Nat) : Int) := by rw [wrap64_small (by omega) (by omega)]; omega
      have hn := M.nm i c1
      refine ⟨k + 1, ?_⟩
      unfold smithylaw25_ScanRenamed.l0
      rw [if_pos (by rw [ren_len]; omega), if_pos (by omega), hp, Option.bind_some, ew, rd_sp, ren_get l p i c1, if_neg (by omega), wrap64_small (n := (sp l i).f0 * 2) (by omega) (by omega), wrap64_small (n := (sp l i).f0 * 2 + p) (by omega) (by omega), Int.toNat_natCast]
      have hset := ren_set l p c1
      unfold rn at hset
      rw [hset]
      exact hk
    · obtain rfl : i = l.length := by omega
      exact fin
end
theorem renamed_pure : smithylaw25_ScanRenamed.Pure := by
  intro l0 a1 a2 _ _ _ _ _
  obtain ⟨k0, hk0⟩ := awake_t
  obtain ⟨k1, l, a, hk1, M⟩ := made_f l0
  obtain ⟨p, hp, hp0⟩ := pick_f a1 1000 (by omega) (by omega)
  obtain ⟨r, hr, hr0⟩ := pick_f a2 8 (by omega) (by omega)
  obtain ⟨k2, hk2⟩ := l0_r M a1 a2 p r hp hp0 hr hr0 l.length 0 (by omega) (by omega)
  rw [ren_zero] at hk2
  refine ⟨k0 + k1 + k2 + 1, ?_⟩
  have hc : smithykit_CopySpans.f l = some l := by
    unfold smithykit_CopySpans.f
    rw [if_pos (by have := M.ln; simp; omega)]; rfl
  unfold smithylaw25_ScanRenamed.f
  rw [fuel smithylaw25_awake.mono hk0 (by omega), Option.bind_some, if_pos rfl, fuel (fun k => smithylaw25_made.mono l0 k) hk1 (by omega), Option.bind_some, hc, Option.bind_some]
  exact fuel (f := fun k => smithylaw25_ScanRenamed.l0 k a1 a2 l l 0) (fun k => ((smithylaw25_ScanRenamed.mono_l k).1 _ _ _ _ _)) hk2 (by omega)
end Go.Proofs.Ytcmbpboeilojmaa.Sw
